/- Items: how much they are, how deep, whether two are alike, copies. -/
import Derived.Test.YtjfnmlheehbojaaCItem
namespace Go.Proofs.Ytjfnmlheehbojaa.VA
set_option maxRecDepth 10000
set_option linter.unusedSimpArgs false
set_option linter.unusedVariables false
set_option maxHeartbeats 4000000

/-- How much an item weighs, as the laws reckon. -/
def wtOf : ItemD → Nat
  | .mk _ t xs => wtGo (1 + t.length) xs
where wtGo : Nat → List ItemD → Nat
  | n, [] => n
  | n, x :: xs => if n < 1048576 then wtGo (n + wtOf x) xs else n
theorem wtOf_eq (it : ItemD) : wtOf it = wtOf.wtGo (1 + it.text.length) it.items := by cases it; rw [wtOf]; rfl
theorem wtGo_nil (n : Nat) : wtOf.wtGo n [] = n := by rw [wtOf.wtGo]
theorem wtGo_cons (n : Nat) (x : ItemD) (xs : List ItemD) : wtOf.wtGo n (x :: xs) = if n < 1048576 then wtOf.wtGo (n + wtOf x) xs else n := by rw [wtOf.wtGo]
theorem wtGo_end {n : Nat} {xs : List ItemD} (h : ¬ n < 1048576) : wtOf.wtGo n xs = n := by
  cases xs with
  | nil => exact wtGo_nil n
  | cons x xs => rw [wtGo_cons, if_neg h]
theorem wtGo_drop {n : Nat} {xs : List ItemD} {i : Nat} {x : ItemD} (e : xs[i]? = some x) (h : n < 1048576) : wtOf.wtGo n (xs.drop i) = wtOf.wtGo (n + wtOf x) (xs.drop (i + 1)) := by
  obtain ⟨hi, rfl⟩ := List.getElem?_eq_some_iff.1 e
  rw [← List.getElem_cons_drop hi, wtGo_cons, if_pos h]
theorem wtGo_le {xs : List ItemD} (h : ∀ x ∈ xs, wtOf x ≤ x.wt) : ∀ n, n ≤ wtOf.wtGo n xs ∧ wtOf.wtGo n xs ≤ n + wts xs := by
  induction xs with
  | nil => intro n; rw [wtGo_nil, wts_nil]; omega
  | cons x xs ih =>
    intro n
    rw [wtGo_cons, wts_cons]
    have := ih (fun y hy => h y (List.mem_cons_of_mem _ hy)) (n + wtOf x)
    have := h x (by simp)
    split <;> omega
theorem wtOf_le (it : ItemD) : wtOf it ≤ it.wt := by
  rw [wtOf_eq, wt_eq]
  exact ((wtGo_le fun x hx => wtOf_le x) _).2
termination_by SizeOf.sizeOf it
decreasing_by exact item_lt hx
theorem wtGo_full {xs : List ItemD} (h : ∀ x ∈ xs, wtOf x < 1048576 → wtOf x = x.wt) : ∀ n, wtOf.wtGo n xs < 1048576 → wtOf.wtGo n xs = n + wts xs := by
  induction xs with
  | nil => intro n _; rw [wtGo_nil, wts_nil]; rfl
  | cons x xs ih =>
    intro n hn
    rw [wtGo_cons] at hn ⊢
    rw [wts_cons]
    split at hn
    · rename_i h1
      rw [if_pos h1]
      have h2 := (wtGo_le (xs := xs) (fun y _ => wtOf_le y) (n + wtOf x)).1
      rw [ih (fun y hy => h y (List.mem_cons_of_mem _ hy)) _ hn, h x (by simp) (by omega)]
      omega
    · omega
theorem wtOf_full (it : ItemD) (h : wtOf it < 1048576) : wtOf it = it.wt := by
  rw [wtOf_eq] at h ⊢
  rw [wt_eq]
  exact wtGo_full (fun x hx hlt => wtOf_full x hlt) _ h
termination_by SizeOf.sizeOf it
decreasing_by exact item_lt hx
/-- How deep an item is. -/
def dpOf : ItemD → Nat
  | .mk _ _ xs => dpGo 0 xs + 1
where dpGo : Nat → List ItemD → Nat
  | n, [] => n
  | n, x :: xs => dpGo (max n (dpOf x)) xs
theorem dpOf_eq (it : ItemD) : dpOf it = dpOf.dpGo 0 it.items + 1 := by cases it; rw [dpOf]; rfl
theorem dpGo_nil (n : Nat) : dpOf.dpGo n [] = n := by rw [dpOf.dpGo]
theorem dpGo_cons (n : Nat) (x : ItemD) (xs : List ItemD) : dpOf.dpGo n (x :: xs) = dpOf.dpGo (max n (dpOf x)) xs := by rw [dpOf.dpGo]
theorem dpGo_drop {n : Nat} {xs : List ItemD} {i : Nat} {x : ItemD} (e : xs[i]? = some x) : dpOf.dpGo n (xs.drop i) = dpOf.dpGo (max n (dpOf x)) (xs.drop (i + 1)) := by
  obtain ⟨hi, rfl⟩ := List.getElem?_eq_some_iff.1 e
  rw [← List.getElem_cons_drop hi, dpGo_cons]
theorem dpGo_le {xs : List ItemD} {m : Nat} (h : ∀ x ∈ xs, dpOf x ≤ m) : ∀ n, n ≤ m → dpOf.dpGo n xs ≤ m := by
  induction xs with
  | nil => intro n hn; rw [dpGo_nil]; exact hn
  | cons x xs ih =>
    intro n hn
    rw [dpGo_cons]
    have := h x (by simp)
    exact ih (fun y hy => h y (List.mem_cons_of_mem _ hy)) _ (by omega)
theorem dpOf_le (it : ItemD) : dpOf it ≤ it.wt := by
  rw [dpOf_eq, wt_eq]
  have := dpGo_le (m := wts it.items) (fun x hx => Nat.le_trans (dpOf_le x) (wts_mem hx)) 0 (Nat.zero_le _)
  omega
termination_by SizeOf.sizeOf it
decreasing_by exact item_lt hx

theorem c_ItemWeight (it : ItemD) (h : it.ok) : Contract Try.prog 54 [it.av] (.int .i64 (wtOf it)) := by
  have ih : ∀ x, x ∈ it.items → Contract Try.prog 54 [x.av] (.int .i64 (wtOf x)) := fun x hx => c_ItemWeight x (h.all x hx)
  have ht := h.text
  have hn := h.num
  refine contract_of (C := cf 29 [1, 2, 3, 4, 17] (fun _ => [])) (cf_ok _ _ _) (fn := Try.f54) Try.func54 (by kernel_rfl) rfl (by kernel_rfl) (by simp [cf]) (plain1 it.plain) (by decide) (noCell (by kernel_rfl)) ?_
  have w1 : IntKind.i64.wrap (1 + (it.text.length : Int)) = ((1 + it.text.length : Nat) : Int) := by rw [wi64 (by omega) (by omega)]; omega
  simp only [go_sem, ↓reduceIte, Nat.reduceLT, Nat.reduceLeDiff, Nat.reduceAdd, Nat.reduceSub, Nat.reduceMul, Nat.reduceEqDiff, Nat.reduceBEq, Nat.reduceMod, Nat.reduceDiv, Int.reduceToNat, reduceCtorEq, Int.reduceLT, Int.reduceLE, Int.reduceGT, Int.reduceGE, Int.reduceAdd, Int.reduceSub, Int.reduceMul, Int.reduceNeg, Int.reduceEq, Int.reduceNe, Int.reduceBNe, Int.reduceBEq, Int.reduceDiv, ItemD.av_eq, ItemD.cells, w1]
  refine ex_iter [1, 3, 4] (fun q : Nat × Nat => ⟨[(1, .var 1 0), (3, .int .i64 (q.2 : Nat)), (4, .int .i64 (q.1 : Nat))], [(1, it.cells)]⟩)
    (fun q => q.1 ≤ it.items.length ∧ q.2 ≤ 33554432 ∧ wtOf.wtGo q.2 (it.items.drop q.1) = wtOf it) (fun q => it.items.length - q.1) (0, 1 + it.text.length) ?_ ?_ ?_
  · simp only [ASt.keep, consIf, keepL, keepV, AV.isBot, List.contains_cons, List.contains_nil, Nat.reduceBEq, Bool.or_false, Bool.false_or, Bool.or_true, Bool.true_or, beq_self_eq_true, Bool.false_eq_true, ↓reduceIte, if_false, if_true]
    rfl
  · exact ⟨Nat.zero_le _, by simp only; omega, (wtOf_eq it).symm⟩
  · rintro r ⟨i, n⟩ hinv next
    obtain ⟨hi, hn2, hw⟩ : i ≤ it.items.length ∧ n ≤ 33554432 ∧ wtOf.wtGo n (it.items.drop i) = wtOf it := hinv
    simp only [go_sem, ↓reduceIte, Nat.reduceLT, Nat.reduceLeDiff, Nat.reduceAdd, Nat.reduceSub, Nat.reduceMul, Nat.reduceEqDiff, Nat.reduceBEq, Nat.reduceMod, Nat.reduceDiv, Int.reduceToNat, reduceCtorEq, Int.reduceLT, Int.reduceLE, Int.reduceGT, Int.reduceGE, Int.reduceAdd, Int.reduceSub, Int.reduceMul, Int.reduceNeg, Int.reduceEq, Int.reduceNe, Int.reduceBNe, Int.reduceBEq, Int.reduceDiv, List.length_map, ItemD.cells]
    refine ex_joinB 17 (decide (i < it.items.length) && decide (n < 1048576)) ?_ ?_
    · repeat' (first | (refine ex_split (fun h => ?_) (fun h => ?_)) | (with_reducible refine And.intro (by omega) ?_) |
        (simp only [go_sem, ↓reduceIte, Nat.reduceLT, Nat.reduceLeDiff, Nat.reduceAdd, Nat.reduceSub, Nat.reduceMul, Nat.reduceEqDiff, Nat.reduceBEq, Nat.reduceMod, Nat.reduceDiv, Int.reduceToNat, reduceCtorEq, Int.reduceLT, Int.reduceLE, Int.reduceGT, Int.reduceGE, Int.reduceAdd, Int.reduceSub, Int.reduceMul, Int.reduceNeg, Int.reduceEq, Int.reduceNe, Int.reduceBNe, Int.reduceBEq, Int.reduceDiv, List.length_map, ItemD.cells]))
      all_goals (try simp only [ASt.mk.injEq, List.cons.injEq, Prod.mk.injEq, AV.bool.injEq, true_and, and_true, eq_self])
      all_goals first | (simp_all; done) | (simp_all; omega) | (rw [Bool.eq_iff_iff]; simp only [List.length_map, Bool.or_eq_true, Bool.and_eq_true, Bool.not_eq_true', Bool.not_eq_false', decide_eq_true_eq, decide_eq_false_iff_not, bne_iff_ne, beq_iff_eq, ne_eq, true_iff, iff_true, false_iff, iff_false, Bool.false_eq_true, not_false_eq_true, not_true_eq_false] at *; omega)
    simp only [go_sem, ↓reduceIte, Nat.reduceLT, Nat.reduceLeDiff, Nat.reduceAdd, Nat.reduceSub, Nat.reduceMul, Nat.reduceEqDiff, Nat.reduceBEq, Nat.reduceMod, Nat.reduceDiv, Int.reduceToNat, reduceCtorEq, Int.reduceLT, Int.reduceLE, Int.reduceGT, Int.reduceGE, Int.reduceAdd, Int.reduceSub, Int.reduceMul, Int.reduceNeg, Int.reduceEq, Int.reduceNe, Int.reduceBNe, Int.reduceBEq, Int.reduceDiv]
    refine ex_br (fun hc => ?_) (fun hc => ?_)
    · have hlt : i < it.items.length ∧ n < 1048576 := by simpa using hc
      obtain ⟨x, ex⟩ : ∃ x, it.items[i]? = some x := ⟨_, List.getElem?_eq_getElem hlt.1⟩
      have hm := List.mem_of_getElem? ex
      have hx := ih x hm
      have hb := wtOf_le x
      have hb2 := h.all x hm
      unfold ItemD.ok at hb2
      rw [ItemD.av_eq] at hx
      have w3 : IntKind.i64.wrap ((n : Int) + (wtOf x : Int)) = ((n + wtOf x : Nat) : Int) := by rw [wi64 (by omega) (by omega)]; omega
      simp only [go_sem, ↓reduceIte, Nat.reduceLT, Nat.reduceLeDiff, Nat.reduceAdd, Nat.reduceSub, Nat.reduceMul, Nat.reduceEqDiff, Nat.reduceBEq, Nat.reduceMod, Nat.reduceDiv, Int.reduceToNat, reduceCtorEq, Int.reduceLT, Int.reduceLE, Int.reduceGT, Int.reduceGE, Int.reduceAdd, Int.reduceSub, Int.reduceMul, Int.reduceNeg, Int.reduceEq, Int.reduceNe, Int.reduceBNe, Int.reduceBEq, Int.reduceDiv, List.length_map, List.getElem?_map, ex, Int.toNat_natCast, ItemD.av_eq, ItemD.cells]
      repeat with_reducible refine And.intro (by first | omega | (simp only [List.length_cons, List.length_append, List.length_nil, List.length_map, List.length_take, List.length_drop, List.length_set]; omega)) ?_
      try simp only [go_sem, ↓reduceIte, Nat.reduceLT, Nat.reduceLeDiff, Nat.reduceAdd, Nat.reduceSub, Nat.reduceMul, Nat.reduceEqDiff, Nat.reduceBEq, Nat.reduceMod, Nat.reduceDiv, Int.reduceToNat, reduceCtorEq, Int.reduceLT, Int.reduceLE, Int.reduceGT, Int.reduceGE, Int.reduceAdd, Int.reduceSub, Int.reduceMul, Int.reduceNeg, Int.reduceEq, Int.reduceNe, Int.reduceBNe, Int.reduceBEq, Int.reduceDiv, ItemD.cells]
      refine ex_call (by exact hx) ?_
      simp only [go_sem, ↓reduceIte, Nat.reduceLT, Nat.reduceLeDiff, Nat.reduceAdd, Nat.reduceSub, Nat.reduceMul, Nat.reduceEqDiff, Nat.reduceBEq, Nat.reduceMod, Nat.reduceDiv, Int.reduceToNat, reduceCtorEq, Int.reduceLT, Int.reduceLE, Int.reduceGT, Int.reduceGE, Int.reduceAdd, Int.reduceSub, Int.reduceMul, Int.reduceNeg, Int.reduceEq, Int.reduceNe, Int.reduceBNe, Int.reduceBEq, Int.reduceDiv, w3]
      refine next (i + 1, n + wtOf x) _ ⟨by simp only; omega, by simp only; omega, by simp only; rw [← wtGo_drop ex hlt.2]; exact hw⟩ (by simp only; omega) ?_
      simp only
      rw [← wi64_nat i (by omega)]
      simp only [ASt.keep, consIf, keepL, keepV, AV.isBot, List.contains_cons, List.contains_nil, Nat.reduceBEq, Bool.or_false, Bool.false_or, Bool.or_true, Bool.true_or, beq_self_eq_true, Bool.false_eq_true, ↓reduceIte, if_false, if_true]
      rfl
    · have e : wtOf it = n := by
        rw [← hw]
        by_cases h1 : n < 1048576
        · have : i = it.items.length := by simp [h1] at hc; omega
          rw [this, List.drop_length]; exact wtGo_nil n
        · exact wtGo_end h1
      simp only [go_sem, ↓reduceIte, Nat.reduceLT, Nat.reduceLeDiff, Nat.reduceAdd, Nat.reduceSub, Nat.reduceMul, Nat.reduceEqDiff, Nat.reduceBEq, Nat.reduceMod, Nat.reduceDiv, Int.reduceToNat, reduceCtorEq, Int.reduceLT, Int.reduceLE, Int.reduceGT, Int.reduceGE, Int.reduceAdd, Int.reduceSub, Int.reduceMul, Int.reduceNeg, Int.reduceEq, Int.reduceNe, Int.reduceBNe, Int.reduceBEq, Int.reduceDiv, e]
      refine finOne ?_ (fun _ e => by cases e)
      show resOf _ _ [.tmp 2] = _
      simp only [go_sem, ↓reduceIte, Nat.reduceLT, Nat.reduceLeDiff, Nat.reduceAdd, Nat.reduceSub, Nat.reduceMul, Nat.reduceEqDiff, Nat.reduceBEq, Nat.reduceMod, Nat.reduceDiv, Int.reduceToNat, reduceCtorEq, Int.reduceLT, Int.reduceLE, Int.reduceGT, Int.reduceGE, Int.reduceAdd, Int.reduceSub, Int.reduceMul, Int.reduceNeg, Int.reduceEq, Int.reduceNe, Int.reduceBNe, Int.reduceBEq, Int.reduceDiv]
termination_by SizeOf.sizeOf it
decreasing_by exact item_lt hx
theorem max_nat (a b : Nat) : (if (b : Int) > (a : Int) then (b : Int) else (a : Int)) = ((max a b : Nat) : Int) := by
  split <;> omega
theorem c_Deep (it : ItemD) (h : it.ok) : Contract Try.prog 55 [it.av] (.int .i64 (dpOf it)) := by
  have ih : ∀ x, x ∈ it.items → Contract Try.prog 55 [x.av] (.int .i64 (dpOf x)) := fun x hx => c_Deep x (h.all x hx)
  have hn := h.num
  refine contract_of (C := cf 22 [1, 2, 3, 4, 9] (fun _ => [])) (cf_ok _ _ _) (fn := Try.f55) Try.func55 (by kernel_rfl) rfl (by kernel_rfl) (by simp [cf]) (plain1 it.plain) (by decide) (noCell (by kernel_rfl)) ?_
  simp only [go_sem, ↓reduceIte, Nat.reduceLT, Nat.reduceLeDiff, Nat.reduceAdd, Nat.reduceSub, Nat.reduceMul, Nat.reduceEqDiff, Nat.reduceBEq, Nat.reduceMod, Nat.reduceDiv, Int.reduceToNat, reduceCtorEq, Int.reduceLT, Int.reduceLE, Int.reduceGT, Int.reduceGE, Int.reduceAdd, Int.reduceSub, Int.reduceMul, Int.reduceNeg, Int.reduceEq, Int.reduceNe, Int.reduceBNe, Int.reduceBEq, Int.reduceDiv, ItemD.av_eq, ItemD.cells]
  refine ex_iter [1, 3, 4] (fun q : Nat × Nat => ⟨[(1, .var 1 0), (3, .int .i64 (q.2 : Nat)), (4, .int .i64 (q.1 : Nat))], [(1, it.cells)]⟩)
    (fun q => q.1 ≤ it.items.length ∧ q.2 ≤ 16777216 ∧ dpOf.dpGo q.2 (it.items.drop q.1) + 1 = dpOf it) (fun q => it.items.length - q.1) (0, 0) ?_ ?_ ?_
  · simp only [ASt.keep, consIf, keepL, keepV, AV.isBot, List.contains_cons, List.contains_nil, Nat.reduceBEq, Bool.or_false, Bool.false_or, Bool.or_true, Bool.true_or, beq_self_eq_true, Bool.false_eq_true, ↓reduceIte, if_false, if_true]
    rfl
  · exact ⟨Nat.zero_le _, by simp only; omega, (dpOf_eq it).symm⟩
  · rintro r ⟨i, n⟩ hinv next
    obtain ⟨hi, hn2, hw⟩ : i ≤ it.items.length ∧ n ≤ 16777216 ∧ dpOf.dpGo n (it.items.drop i) + 1 = dpOf it := hinv
    simp only [go_sem, ↓reduceIte, Nat.reduceLT, Nat.reduceLeDiff, Nat.reduceAdd, Nat.reduceSub, Nat.reduceMul, Nat.reduceEqDiff, Nat.reduceBEq, Nat.reduceMod, Nat.reduceDiv, Int.reduceToNat, reduceCtorEq, Int.reduceLT, Int.reduceLE, Int.reduceGT, Int.reduceGE, Int.reduceAdd, Int.reduceSub, Int.reduceMul, Int.reduceNeg, Int.reduceEq, Int.reduceNe, Int.reduceBNe, Int.reduceBEq, Int.reduceDiv, List.length_map, ItemD.cells]
    refine ex_br (fun hc => ?_) (fun hc => ?_)
    · have hlt : i < it.items.length := by simpa using hc
      obtain ⟨x, ex⟩ : ∃ x, it.items[i]? = some x := ⟨_, List.getElem?_eq_getElem hlt⟩
      have hm := List.mem_of_getElem? ex
      have hx := ih x hm
      have hb := dpOf_le x
      have hb2 := h.all x hm
      unfold ItemD.ok at hb2
      rw [ItemD.av_eq] at hx
      simp only [go_sem, ↓reduceIte, Nat.reduceLT, Nat.reduceLeDiff, Nat.reduceAdd, Nat.reduceSub, Nat.reduceMul, Nat.reduceEqDiff, Nat.reduceBEq, Nat.reduceMod, Nat.reduceDiv, Int.reduceToNat, reduceCtorEq, Int.reduceLT, Int.reduceLE, Int.reduceGT, Int.reduceGE, Int.reduceAdd, Int.reduceSub, Int.reduceMul, Int.reduceNeg, Int.reduceEq, Int.reduceNe, Int.reduceBNe, Int.reduceBEq, Int.reduceDiv, List.length_map, List.getElem?_map, ex, Int.toNat_natCast, ItemD.av_eq, ItemD.cells]
      repeat with_reducible refine And.intro (by first | omega | (simp only [List.length_cons, List.length_append, List.length_nil, List.length_map, List.length_take, List.length_drop, List.length_set]; omega)) ?_
      try simp only [go_sem, ↓reduceIte, Nat.reduceLT, Nat.reduceLeDiff, Nat.reduceAdd, Nat.reduceSub, Nat.reduceMul, Nat.reduceEqDiff, Nat.reduceBEq, Nat.reduceMod, Nat.reduceDiv, Int.reduceToNat, reduceCtorEq, Int.reduceLT, Int.reduceLE, Int.reduceGT, Int.reduceGE, Int.reduceAdd, Int.reduceSub, Int.reduceMul, Int.reduceNeg, Int.reduceEq, Int.reduceNe, Int.reduceBNe, Int.reduceBEq, Int.reduceDiv, ItemD.cells]
      refine ex_call (by exact hx) ?_
      simp only [go_sem, ↓reduceIte, Nat.reduceLT, Nat.reduceLeDiff, Nat.reduceAdd, Nat.reduceSub, Nat.reduceMul, Nat.reduceEqDiff, Nat.reduceBEq, Nat.reduceMod, Nat.reduceDiv, Int.reduceToNat, reduceCtorEq, Int.reduceLT, Int.reduceLE, Int.reduceGT, Int.reduceGE, Int.reduceAdd, Int.reduceSub, Int.reduceMul, Int.reduceNeg, Int.reduceEq, Int.reduceNe, Int.reduceBNe, Int.reduceBEq, Int.reduceDiv]
      refine next (i + 1, max n (dpOf x)) _ ⟨by simp only; omega, by simp only; omega, by simp only; rw [← dpGo_drop ex]; exact hw⟩ (by simp only; omega) ?_
      simp only
      rw [← wi64_nat i (by omega), ← max_nat]
      simp only [ASt.keep, consIf, keepL, keepV, AV.isBot, List.contains_cons, List.contains_nil, Nat.reduceBEq, Bool.or_false, Bool.false_or, Bool.or_true, Bool.true_or, beq_self_eq_true, Bool.false_eq_true, ↓reduceIte, if_false, if_true]
      rfl
    · have : i = it.items.length := by simp at hc; omega
      subst this
      rw [List.drop_length, dpGo_nil] at hw
      have w2 : IntKind.i64.wrap ((n : Int) + 1) = ((dpOf it : Nat) : Int) := by rw [← hw]; exact wi64_nat n (by omega)
      simp only [go_sem, ↓reduceIte, Nat.reduceLT, Nat.reduceLeDiff, Nat.reduceAdd, Nat.reduceSub, Nat.reduceMul, Nat.reduceEqDiff, Nat.reduceBEq, Nat.reduceMod, Nat.reduceDiv, Int.reduceToNat, reduceCtorEq, Int.reduceLT, Int.reduceLE, Int.reduceGT, Int.reduceGE, Int.reduceAdd, Int.reduceSub, Int.reduceMul, Int.reduceNeg, Int.reduceEq, Int.reduceNe, Int.reduceBNe, Int.reduceBEq, Int.reduceDiv, w2]
      refine finOne ?_ (fun _ e => by cases e)
      show resOf _ _ [.tmp 2] = _
      simp only [go_sem, ↓reduceIte, Nat.reduceLT, Nat.reduceLeDiff, Nat.reduceAdd, Nat.reduceSub, Nat.reduceMul, Nat.reduceEqDiff, Nat.reduceBEq, Nat.reduceMod, Nat.reduceDiv, Int.reduceToNat, reduceCtorEq, Int.reduceLT, Int.reduceLE, Int.reduceGT, Int.reduceGE, Int.reduceAdd, Int.reduceSub, Int.reduceMul, Int.reduceNeg, Int.reduceEq, Int.reduceNe, Int.reduceBNe, Int.reduceBEq, Int.reduceDiv]
termination_by SizeOf.sizeOf it
decreasing_by exact item_lt hx
end Go.Proofs.Ytjfnmlheehbojaa.VA
