/- ChainCuts: the law answers true, whatever it is asked. -/
import Derived.Test.YtfdophapfbllcaaCChain5
namespace Go.Proofs.Ytfdophapfbllcaa.VA
set_option maxRecDepth 10000
set_option linter.unusedSimpArgs false
set_option linter.unusedVariables false
set_option maxHeartbeats 16000000

/-! The page's own cut. -/
def lows (l : List TxD) (n : Int) : List TxD := l.filter (fun t => decide (t.nonce < n))
def highs (l : List TxD) (n : Int) : List TxD := l.filter (fun t => !decide (t.nonce < n))
theorem filter_succ {p : TxD → Bool} {l : List TxD} {i : Nat} {x : TxD} (ex : l[i]? = some x) : (l.take (i + 1)).filter p = (l.take i).filter p ++ (if p x = true then [x] else []) := by
  rw [List.take_add_one, ex, List.filter_append]
  congr 1
  simp only [Option.toList_some, List.filter_cons, List.filter_nil]
theorem c_ref14_Cut (l : List TxD) (n : Int) (hl : l.length * 200 ≤ reachBytes) (hok : ∀ a ∈ l, a.ok) :
    Contract Try.prog 29 [txs l, .int .i64 n] (.tup [.own false 21 ((lows l n).map TxD.av), .own false 21 ((highs l n).map TxD.av)]) := by
  unfold reachBytes at hl
  have f1 : ∀ i, ((lows (l.take i) n)).length ≤ l.length := fun i => Nat.le_trans (List.length_filter_le _ _) (by rw [List.length_take]; omega)
  have f2 : ∀ i, ((highs (l.take i) n)).length ≤ l.length := fun i => Nat.le_trans (List.length_filter_le _ _) (by rw [List.length_take]; omega)
  refine contract_of (C := cf 40 [0, 1, 4, 5, 6, 7, 8, 12, 21] (fun _ => [])) (cf_ok _ _ _) (fn := Try.f29) Try.func29 (by kernel_rfl) rfl (by kernel_rfl) (by simp [cf]) (plain2 (txs_plain l) (.int _ _)) (by decide) (noCell (by kernel_rfl)) ?_
  simp only [go_sem, ↓reduceIte, Nat.reduceLT, Nat.reduceLeDiff, Nat.reduceAdd, Nat.reduceSub, Nat.reduceMul, Nat.reduceEqDiff, Nat.reduceBEq, Nat.reduceMod, Nat.reduceDiv, Int.reduceToNat, reduceCtorEq, Int.reduceLT, Int.reduceLE, Int.reduceGT, Int.reduceGE, Int.reduceAdd, Int.reduceSub, Int.reduceMul, Int.reduceNeg, Int.reduceEq, Int.reduceNe, Int.reduceBNe, Int.reduceBEq, Int.reduceDiv, txs, List.length_map]
  refine ex_iter [0, 1, 6, 7, 8] (fun i : Nat => ⟨[(0, .sl false 21 (l.map TxD.av)), (1, .int .i64 n), (6, .own false 21 ((lows (l.take i) n).map TxD.av)), (7, .own false 21 ((highs (l.take i) n).map TxD.av)), (8, .int .i64 i)], []⟩) (fun i => i ≤ l.length) (fun i => l.length - i) 0 ?_ ?_ ?_
  · simp only [ASt.keep, consIf, keepL, keepV, AV.isBot, List.contains_cons, List.contains_nil, Nat.reduceBEq, Bool.or_false, Bool.false_or, Bool.or_true, Bool.true_or, beq_self_eq_true, Bool.false_eq_true, ↓reduceIte, if_false, if_true]
    rfl
  · exact Nat.zero_le _
  · intro m i hi next
    have g1 := f1 i
    have g2 := f2 i
    simp only [go_sem, ↓reduceIte, Nat.reduceLT, Nat.reduceLeDiff, Nat.reduceAdd, Nat.reduceSub, Nat.reduceMul, Nat.reduceEqDiff, Nat.reduceBEq, Nat.reduceMod, Nat.reduceDiv, Int.reduceToNat, reduceCtorEq, Int.reduceLT, Int.reduceLE, Int.reduceGT, Int.reduceGE, Int.reduceAdd, Int.reduceSub, Int.reduceMul, Int.reduceNeg, Int.reduceEq, Int.reduceNe, Int.reduceBNe, Int.reduceBEq, Int.reduceDiv, List.length_map]
    refine ex_br (fun h => ?_) (fun h => ?_)
    · have hlt : i < l.length := by simpa using h
      obtain ⟨x, ex⟩ : ∃ x, l[i]? = some x := ⟨_, List.getElem?_eq_getElem hlt⟩
      have hx := hok x (List.mem_of_getElem? ex)
      simp only [go_sem, ↓reduceIte, Nat.reduceLT, Nat.reduceLeDiff, Nat.reduceAdd, Nat.reduceSub, Nat.reduceMul, Nat.reduceEqDiff, Nat.reduceBEq, Nat.reduceMod, Nat.reduceDiv, Int.reduceToNat, reduceCtorEq, Int.reduceLT, Int.reduceLE, Int.reduceGT, Int.reduceGE, Int.reduceAdd, Int.reduceSub, Int.reduceMul, Int.reduceNeg, Int.reduceEq, Int.reduceNe, Int.reduceBNe, Int.reduceBEq, Int.reduceDiv, List.length_map, List.getElem?_map, ex, Int.toNat_natCast, TxD.av, TxD.cells]
      repeat with_reducible refine And.intro (by first | omega | (simp only [List.length_cons, List.length_append, List.length_nil, List.length_map, List.length_take, List.length_drop, List.length_set]; omega)) ?_
      refine ex_br (fun hc => ?_) (fun hc => ?_)
      · have e1 : (lows (l.take i) n).map TxD.av ++ [.agg x.cells] = (lows (l.take (i + 1)) n).map TxD.av := by
          unfold lows
          rw [filter_succ ex, if_pos hc, List.map_append]; rfl
        have e2 : highs (l.take i) n = highs (l.take (i + 1)) n := by
          unfold highs
          rw [filter_succ ex, if_neg (by rw [hc]; decide), List.append_nil]
        simp only [go_sem, ↓reduceIte, Nat.reduceLT, Nat.reduceLeDiff, Nat.reduceAdd, Nat.reduceSub, Nat.reduceMul, Nat.reduceEqDiff, Nat.reduceBEq, Nat.reduceMod, Nat.reduceDiv, Int.reduceToNat, reduceCtorEq, Int.reduceLT, Int.reduceLE, Int.reduceGT, Int.reduceGE, Int.reduceAdd, Int.reduceSub, Int.reduceMul, Int.reduceNeg, Int.reduceEq, Int.reduceNe, Int.reduceBNe, Int.reduceBEq, Int.reduceDiv, List.length_map, List.getElem?_map, ex, Int.toNat_natCast, TxD.av]
        repeat with_reducible refine And.intro (by first | omega | (simp only [List.length_cons, List.length_append, List.length_nil, List.length_map, List.length_take, List.length_drop, List.length_set]; omega)) ?_
        refine ex_call (by exact c_CopyTx x hx) ?_
        simp only [go_sem, ↓reduceIte, Nat.reduceLT, Nat.reduceLeDiff, Nat.reduceAdd, Nat.reduceSub, Nat.reduceMul, Nat.reduceEqDiff, Nat.reduceBEq, Nat.reduceMod, Nat.reduceDiv, Int.reduceToNat, reduceCtorEq, Int.reduceLT, Int.reduceLE, Int.reduceGT, Int.reduceGE, Int.reduceAdd, Int.reduceSub, Int.reduceMul, Int.reduceNeg, Int.reduceEq, Int.reduceNe, Int.reduceBNe, Int.reduceBEq, Int.reduceDiv, List.length_map, TxD.av, cells_len]
        repeat with_reducible refine And.intro (by first | omega | (simp only [List.length_cons, List.length_append, List.length_nil, List.length_map, List.length_take, List.length_drop, List.length_set]; omega)) ?_
        refine next (i + 1) _ (by omega) (by omega) ?_
        rw [← wi64_nat i (by omega), ← e1, ← e2]
        simp only [ASt.keep, consIf, keepL, keepV, AV.isBot, List.contains_cons, List.contains_nil, Nat.reduceBEq, Bool.or_false, Bool.false_or, Bool.or_true, Bool.true_or, beq_self_eq_true, Bool.false_eq_true, ↓reduceIte, if_false, if_true]
      · have e1 : (highs (l.take i) n).map TxD.av ++ [.agg x.cells] = (highs (l.take (i + 1)) n).map TxD.av := by
          unfold highs
          rw [filter_succ ex, if_pos (by rw [hc]; decide), List.map_append]; rfl
        have e2 : lows (l.take i) n = lows (l.take (i + 1)) n := by
          unfold lows
          rw [filter_succ ex, if_neg (by rw [hc]; decide), List.append_nil]
        simp only [go_sem, ↓reduceIte, Nat.reduceLT, Nat.reduceLeDiff, Nat.reduceAdd, Nat.reduceSub, Nat.reduceMul, Nat.reduceEqDiff, Nat.reduceBEq, Nat.reduceMod, Nat.reduceDiv, Int.reduceToNat, reduceCtorEq, Int.reduceLT, Int.reduceLE, Int.reduceGT, Int.reduceGE, Int.reduceAdd, Int.reduceSub, Int.reduceMul, Int.reduceNeg, Int.reduceEq, Int.reduceNe, Int.reduceBNe, Int.reduceBEq, Int.reduceDiv, List.length_map, List.getElem?_map, ex, Int.toNat_natCast, TxD.av]
        repeat with_reducible refine And.intro (by first | omega | (simp only [List.length_cons, List.length_append, List.length_nil, List.length_map, List.length_take, List.length_drop, List.length_set]; omega)) ?_
        refine ex_call (by exact c_CopyTx x hx) ?_
        simp only [go_sem, ↓reduceIte, Nat.reduceLT, Nat.reduceLeDiff, Nat.reduceAdd, Nat.reduceSub, Nat.reduceMul, Nat.reduceEqDiff, Nat.reduceBEq, Nat.reduceMod, Nat.reduceDiv, Int.reduceToNat, reduceCtorEq, Int.reduceLT, Int.reduceLE, Int.reduceGT, Int.reduceGE, Int.reduceAdd, Int.reduceSub, Int.reduceMul, Int.reduceNeg, Int.reduceEq, Int.reduceNe, Int.reduceBNe, Int.reduceBEq, Int.reduceDiv, List.length_map, TxD.av, cells_len]
        repeat with_reducible refine And.intro (by first | omega | (simp only [List.length_cons, List.length_append, List.length_nil, List.length_map, List.length_take, List.length_drop, List.length_set]; omega)) ?_
        refine next (i + 1) _ (by omega) (by omega) ?_
        rw [← wi64_nat i (by omega), ← e1, ← e2]
        simp only [ASt.keep, consIf, keepL, keepV, AV.isBot, List.contains_cons, List.contains_nil, Nat.reduceBEq, Bool.or_false, Bool.false_or, Bool.or_true, Bool.true_or, beq_self_eq_true, Bool.false_eq_true, ↓reduceIte, if_false, if_true]
    · have hge : i = l.length := by simp at h; omega
      subst hge
      simp only [go_sem, ↓reduceIte, Nat.reduceLT, Nat.reduceLeDiff, Nat.reduceAdd, Nat.reduceSub, Nat.reduceMul, Nat.reduceEqDiff, Nat.reduceBEq, Nat.reduceMod, Nat.reduceDiv, Int.reduceToNat, reduceCtorEq, Int.reduceLT, Int.reduceLE, Int.reduceGT, Int.reduceGE, Int.reduceAdd, Int.reduceSub, Int.reduceMul, Int.reduceNeg, Int.reduceEq, Int.reduceNe, Int.reduceBNe, Int.reduceBEq, Int.reduceDiv, List.take_length]
      refine finTup ?_
      show resOf _ _ [.tmp 4, .tmp 5] = _
      simp only [go_sem, ↓reduceIte, Nat.reduceLT, Nat.reduceLeDiff, Nat.reduceAdd, Nat.reduceSub, Nat.reduceMul, Nat.reduceEqDiff, Nat.reduceBEq, Nat.reduceMod, Nat.reduceDiv, Int.reduceToNat, reduceCtorEq, Int.reduceLT, Int.reduceLE, Int.reduceGT, Int.reduceGE, Int.reduceAdd, Int.reduceSub, Int.reduceMul, Int.reduceNeg, Int.reduceEq, Int.reduceNe, Int.reduceBNe, Int.reduceBEq, Int.reduceDiv]

/-! A chain's nonces mount. -/
def Mounts (l : List TxD) : Prop := ∀ (i j : Nat) t s, i ≤ j → l[i]? = some t → l[j]? = some s → t.nonce ≤ s.nonce
theorem Mounts.tail {t : TxD} {ts : List TxD} (h : Mounts (t :: ts)) : Mounts ts := fun i j a b hij ha hb => h (i + 1) (j + 1) a b (by omega) (by simpa using ha) (by simpa using hb)
theorem ChainP.mounts {l : List TxD} (h : ChainP l) : Mounts l := fun i j t s hij ht hs => by
  obtain ⟨a, ea⟩ : ∃ a, l[0]? = some a := ⟨_, List.getElem?_eq_getElem (by have := (List.getElem?_eq_some_iff.1 ht).1; omega)⟩
  have h1 := (h.link i a t ea ht).2
  have h2 := (h.link j a s ea hs).2
  omega
theorem lows_eq {n : Int} : ∀ {l : List TxD}, Mounts l → lows l n = l.take (belowN l n)
  | [], _ => rfl
  | t :: ts, h => by
    simp only [lows, belowN, List.filter_cons]
    by_cases ht : t.nonce < n
    · rw [if_pos (by simpa using ht), if_pos ht, List.take_succ_cons]
      congr 1
      exact lows_eq h.tail
    · rw [if_neg (by simpa using ht), if_neg ht, List.take_zero]
      refine List.filter_eq_nil_iff.2 fun s hs => ?_
      obtain ⟨j, hj⟩ := List.getElem?_of_mem hs
      have := h 0 (j + 1) t s (by omega) rfl (by simpa using hj)
      simp only [decide_eq_true_eq]
      omega
theorem highs_eq {n : Int} : ∀ {l : List TxD}, Mounts l → highs l n = l.drop (belowN l n)
  | [], _ => rfl
  | t :: ts, h => by
    simp only [highs, belowN, List.filter_cons]
    by_cases ht : t.nonce < n
    · rw [if_neg (by simpa using ht), if_pos ht, List.drop_succ_cons]
      exact highs_eq h.tail
    · rw [if_pos (by simpa using ht), if_neg ht, List.drop_zero]
      congr 1
      refine List.filter_eq_self.2 fun s hs => ?_
      obtain ⟨j, hj⟩ := List.getElem?_of_mem hs
      have := h 0 (j + 1) t s (by omega) rfl (by simpa using hj)
      simp only [Bool.not_eq_true', decide_eq_false_iff_not]
      omega
theorem c_ChainCuts (p : ScriptD) (h : p.ok) : Contract Try.prog 7 [p.av] (.bool true) := by
  have hcl := h.cl
  unfold reachBytes at hcl
  refine contract_of (C := cf 111 [1, 2, 3, 4, 5, 6, 7, 8, 9, 10, 12, 21, 37, 65, 73, 109] (fun _ => [])) (cf_ok _ _ _) (fn := Try.f7) Try.func7 (by kernel_rfl) rfl (by kernel_rfl) (by simp [cf]) (plain1 p.plain) (by decide) (noCell (by kernel_rfl)) ?_
  simp only [go_sem, ↓reduceIte, Nat.reduceLT, Nat.reduceLeDiff, Nat.reduceAdd, Nat.reduceSub, Nat.reduceMul, Nat.reduceEqDiff, Nat.reduceBEq, Nat.reduceMod, Nat.reduceDiv, Int.reduceToNat, reduceCtorEq, Int.reduceLT, Int.reduceLE, Int.reduceGT, Int.reduceGE, Int.reduceAdd, Int.reduceSub, Int.reduceMul, Int.reduceNeg, Int.reduceEq, Int.reduceNe, Int.reduceBNe, Int.reduceBEq, Int.reduceDiv, ScriptD.av, txs, ints]
  refine ex_call (by exact c_law14_heavy p h) ?_
  simp only [go_sem, ↓reduceIte, Nat.reduceLT, Nat.reduceLeDiff, Nat.reduceAdd, Nat.reduceSub, Nat.reduceMul, Nat.reduceEqDiff, Nat.reduceBEq, Nat.reduceMod, Nat.reduceDiv, Int.reduceToNat, reduceCtorEq, Int.reduceLT, Int.reduceLE, Int.reduceGT, Int.reduceGE, Int.reduceAdd, Int.reduceSub, Int.reduceMul, Int.reduceNeg, Int.reduceEq, Int.reduceNe, Int.reduceBNe, Int.reduceBEq, Int.reduceDiv]
  refine ex_br (fun hh => ?_) (fun hh => ?_)
  · simp only [go_sem, ↓reduceIte, Nat.reduceLT, Nat.reduceLeDiff, Nat.reduceAdd, Nat.reduceSub, Nat.reduceMul, Nat.reduceEqDiff, Nat.reduceBEq, Nat.reduceMod, Nat.reduceDiv, Int.reduceToNat, reduceCtorEq, Int.reduceLT, Int.reduceLE, Int.reduceGT, Int.reduceGE, Int.reduceAdd, Int.reduceSub, Int.reduceMul, Int.reduceNeg, Int.reduceEq, Int.reduceNe, Int.reduceBNe, Int.reduceBEq, Int.reduceDiv]
    refine finOne ?_ (fun _ e => by cases e)
    show resOf _ _ [.tmp 2] = _
    simp only [go_sem, ↓reduceIte, Nat.reduceLT, Nat.reduceLeDiff, Nat.reduceAdd, Nat.reduceSub, Nat.reduceMul, Nat.reduceEqDiff, Nat.reduceBEq, Nat.reduceMod, Nat.reduceDiv, Int.reduceToNat, reduceCtorEq, Int.reduceLT, Int.reduceLE, Int.reduceGT, Int.reduceGE, Int.reduceAdd, Int.reduceSub, Int.reduceMul, Int.reduceNeg, Int.reduceEq, Int.reduceNe, Int.reduceBNe, Int.reduceBEq, Int.reduceDiv]
  · simp only [go_sem, ↓reduceIte, Nat.reduceLT, Nat.reduceLeDiff, Nat.reduceAdd, Nat.reduceSub, Nat.reduceMul, Nat.reduceEqDiff, Nat.reduceBEq, Nat.reduceMod, Nat.reduceDiv, Int.reduceToNat, reduceCtorEq, Int.reduceLT, Int.reduceLE, Int.reduceGT, Int.reduceGE, Int.reduceAdd, Int.reduceSub, Int.reduceMul, Int.reduceNeg, Int.reduceEq, Int.reduceNe, Int.reduceBNe, Int.reduceBEq, Int.reduceDiv]
    refine ex_iter [1, 3] (fun i : Nat => ⟨[(1, .var 1 0), (3, .int .i64 i)], [(1, [.sl false 21 (p.c.map TxD.av), .sl false 21 (p.l.map TxD.av), .sl false 1 (p.n.map (AV.int .i64)), .int .u64 (lim p.bal 0), .int .u64 (lim p.bal 1), .int .u64 (lim p.bal 2), .int .u64 (lim p.bal 3)])]⟩) (fun i => i ≤ 12) (fun i => 12 - i) 0 ?_ ?_ ?_
    · simp only [ASt.keep, consIf, keepL, keepV, AV.isBot, List.contains_cons, List.contains_nil, Nat.reduceBEq, Bool.or_false, Bool.false_or, Bool.or_true, Bool.true_or, beq_self_eq_true, Bool.false_eq_true, ↓reduceIte, if_false, if_true]
      rfl
    · exact Nat.zero_le _
    · rintro m i hi next
      simp only [go_sem, ↓reduceIte, Nat.reduceLT, Nat.reduceLeDiff, Nat.reduceAdd, Nat.reduceSub, Nat.reduceMul, Nat.reduceEqDiff, Nat.reduceBEq, Nat.reduceMod, Nat.reduceDiv, Int.reduceToNat, reduceCtorEq, Int.reduceLT, Int.reduceLE, Int.reduceGT, Int.reduceGE, Int.reduceAdd, Int.reduceSub, Int.reduceMul, Int.reduceNeg, Int.reduceEq, Int.reduceNe, Int.reduceBNe, Int.reduceBEq, Int.reduceDiv, List.length_map]
      refine ex_joinB 21 (decide (i < p.n.length) && decide (i < 12)) ?_ ?_
      · repeat' (first | (refine ex_split (fun h => ?_) (fun h => ?_)) | (with_reducible refine And.intro (by omega) ?_) |
          (simp only [go_sem, ↓reduceIte, Nat.reduceLT, Nat.reduceLeDiff, Nat.reduceAdd, Nat.reduceSub, Nat.reduceMul, Nat.reduceEqDiff, Nat.reduceBEq, Nat.reduceMod, Nat.reduceDiv, Int.reduceToNat, reduceCtorEq, Int.reduceLT, Int.reduceLE, Int.reduceGT, Int.reduceGE, Int.reduceAdd, Int.reduceSub, Int.reduceMul, Int.reduceNeg, Int.reduceEq, Int.reduceNe, Int.reduceBNe, Int.reduceBEq, Int.reduceDiv, List.length_map]))
        all_goals (try simp only [ASt.mk.injEq, List.cons.injEq, Prod.mk.injEq, AV.bool.injEq, true_and, and_true, eq_self])
        all_goals first | (simp_all; done) | (simp_all; omega) | (rw [Bool.eq_iff_iff]; simp only [List.length_map, Bool.or_eq_true, Bool.and_eq_true, Bool.not_eq_true', Bool.not_eq_false', decide_eq_true_eq, decide_eq_false_iff_not, bne_iff_ne, beq_iff_eq, ne_eq, true_iff, iff_true, false_iff, iff_false, Bool.false_eq_true, not_false_eq_true, not_true_eq_false] at *; omega)
      simp only [go_sem, ↓reduceIte, Nat.reduceLT, Nat.reduceLeDiff, Nat.reduceAdd, Nat.reduceSub, Nat.reduceMul, Nat.reduceEqDiff, Nat.reduceBEq, Nat.reduceMod, Nat.reduceDiv, Int.reduceToNat, reduceCtorEq, Int.reduceLT, Int.reduceLE, Int.reduceGT, Int.reduceGE, Int.reduceAdd, Int.reduceSub, Int.reduceMul, Int.reduceNeg, Int.reduceEq, Int.reduceNe, Int.reduceBNe, Int.reduceBEq, Int.reduceDiv]
      refine ex_br (fun hc => ?_) (fun hc => ?_)
      · have hlt : i < p.n.length ∧ i < 12 := by simpa using hc
        obtain ⟨n0, en⟩ : ∃ n0, p.n[i]? = some n0 := ⟨_, List.getElem?_eq_getElem hlt.1⟩
        have hC := c_ref14_Chain p.c h.cl h.c
        have hCut := fun n => c_chain_Cut p.c n h.cl h.c
        have hFrom := fun n => c_chain_From p.c n h.cl h.c
        have hRef := fun n => c_ref14_Cut p.c n h.cl h.c
        simp only [go_sem, ↓reduceIte, Nat.reduceLT, Nat.reduceLeDiff, Nat.reduceAdd, Nat.reduceSub, Nat.reduceMul, Nat.reduceEqDiff, Nat.reduceBEq, Nat.reduceMod, Nat.reduceDiv, Int.reduceToNat, reduceCtorEq, Int.reduceLT, Int.reduceLE, Int.reduceGT, Int.reduceGE, Int.reduceAdd, Int.reduceSub, Int.reduceMul, Int.reduceNeg, Int.reduceEq, Int.reduceNe, Int.reduceBNe, Int.reduceBEq, Int.reduceDiv, List.length_map, List.getElem?_map, en, Int.toNat_natCast]
        repeat with_reducible refine And.intro (by first | omega | (simp only [List.length_cons, List.length_append, List.length_nil, List.length_map, List.length_take, List.length_drop, List.length_set]; omega)) ?_
        have hE1 := fun n => c_EqTxs (p.c.take (belowN p.c n)) (p.c.take (belowN p.c n)) (len_take h.cl) (len_take h.cl) (ok_take h.c) (ok_take h.c)
        have hE2 := fun n => c_EqTxs (p.c.drop (belowN p.c n)) (p.c.drop (belowN p.c n)) (len_drop h.cl) (len_drop h.cl) (ok_drop h.c) (ok_drop h.c)
        have hE3 := c_EqTxs p.c p.c h.cl h.cl h.c h.c
        have ht : Int.tmod (i : Int) (p.c.length : Int) = ((i % p.c.length : Nat) : Int) := by
          rw [Int.tmod_eq_emod_of_nonneg (by omega)]; omega
        have hd : ∀ n, (p.c.take (belowN p.c n)).map TxD.av ++ (p.c.drop (belowN p.c n)).map TxD.av = p.c.map TxD.av := fun n => by
          rw [← List.map_append, List.take_append_drop]
        have hlen : ∀ n, (p.c.take (belowN p.c n)).length + (p.c.drop (belowN p.c n)).length = p.c.length := fun n => by
          rw [← List.length_append, List.take_append_drop]
        cases hl : decide ((p.c.length : Int) > 0)
        case' true =>
          have hpos : 0 < p.c.length := by simpa using hl
          obtain ⟨y, ey⟩ : ∃ y, p.c[i % p.c.length]? = some y := ⟨_, List.getElem?_eq_getElem (Nat.mod_lt _ hpos)⟩
          have hml := Nat.mod_lt i hpos
          simp only [go_sem, ↓reduceIte, Nat.reduceLT, Nat.reduceLeDiff, Nat.reduceAdd, Nat.reduceSub, Nat.reduceMul, Nat.reduceEqDiff, Nat.reduceBEq, Nat.reduceMod, Nat.reduceDiv, Int.reduceToNat, reduceCtorEq, Int.reduceLT, Int.reduceLE, Int.reduceGT, Int.reduceGE, Int.reduceAdd, Int.reduceSub, Int.reduceMul, Int.reduceNeg, Int.reduceEq, Int.reduceNe, Int.reduceBNe, Int.reduceBEq, Int.reduceDiv, hl, List.length_map]
          repeat with_reducible refine And.intro (by first | omega | (simp only [List.length_cons, List.length_append, List.length_nil, List.length_map, List.length_take, List.length_drop, List.length_set]; omega)) ?_
          try simp only [go_sem, ↓reduceIte, Nat.reduceLT, Nat.reduceLeDiff, Nat.reduceAdd, Nat.reduceSub, Nat.reduceMul, Nat.reduceEqDiff, Nat.reduceBEq, Nat.reduceMod, Nat.reduceDiv, Int.reduceToNat, reduceCtorEq, Int.reduceLT, Int.reduceLE, Int.reduceGT, Int.reduceGE, Int.reduceAdd, Int.reduceSub, Int.reduceMul, Int.reduceNeg, Int.reduceEq, Int.reduceNe, Int.reduceBNe, Int.reduceBEq, Int.reduceDiv]
          refine ex_br (fun h2 => ?_) (fun h2 => ?_)
          case' refine_1 =>
            try simp only [go_sem, ↓reduceIte, Nat.reduceLT, Nat.reduceLeDiff, Nat.reduceAdd, Nat.reduceSub, Nat.reduceMul, Nat.reduceEqDiff, Nat.reduceBEq, Nat.reduceMod, Nat.reduceDiv, Int.reduceToNat, reduceCtorEq, Int.reduceLT, Int.reduceLE, Int.reduceGT, Int.reduceGE, Int.reduceAdd, Int.reduceSub, Int.reduceMul, Int.reduceNeg, Int.reduceEq, Int.reduceNe, Int.reduceBNe, Int.reduceBEq, Int.reduceDiv]
            refine ex_draw [] [] (.quiet 0 (.quiet 1 (.quiet 2 (.quiet 3 (.quiet 4 (.quiet 5 (.quiet 6 (.quiet 7 (.quiet 8 (.quiet 9 (.quiet 10 (.fin)))))))))))) (by kernel_rfl) ?_
            simp only [go_sem, ↓reduceIte, Nat.reduceLT, Nat.reduceLeDiff, Nat.reduceAdd, Nat.reduceSub, Nat.reduceMul, Nat.reduceEqDiff, Nat.reduceBEq, Nat.reduceMod, Nat.reduceDiv, Int.reduceToNat, reduceCtorEq, Int.reduceLT, Int.reduceLE, Int.reduceGT, Int.reduceGE, Int.reduceAdd, Int.reduceSub, Int.reduceMul, Int.reduceNeg, Int.reduceEq, Int.reduceNe, Int.reduceBNe, Int.reduceBEq, Int.reduceDiv, List.length_map, ht, List.getElem?_map, ey, Int.toNat_natCast, TxD.av, TxD.cells]
            repeat with_reducible refine And.intro (by first | omega | (simp only [List.length_cons, List.length_append, List.length_nil, List.length_map, List.length_take, List.length_drop, List.length_set]; omega)) ?_
        all_goals try simp only [go_sem, ↓reduceIte, Nat.reduceLT, Nat.reduceLeDiff, Nat.reduceAdd, Nat.reduceSub, Nat.reduceMul, Nat.reduceEqDiff, Nat.reduceBEq, Nat.reduceMod, Nat.reduceDiv, Int.reduceToNat, reduceCtorEq, Int.reduceLT, Int.reduceLE, Int.reduceGT, Int.reduceGE, Int.reduceAdd, Int.reduceSub, Int.reduceMul, Int.reduceNeg, Int.reduceEq, Int.reduceNe, Int.reduceBNe, Int.reduceBEq, Int.reduceDiv, hl]
        all_goals refine ex_call (by exact hCut _) ?_
        all_goals cases hch : chainOk p.c
        all_goals simp only [go_sem, ↓reduceIte, Nat.reduceLT, Nat.reduceLeDiff, Nat.reduceAdd, Nat.reduceSub, Nat.reduceMul, Nat.reduceEqDiff, Nat.reduceBEq, Nat.reduceMod, Nat.reduceDiv, Int.reduceToNat, reduceCtorEq, Int.reduceLT, Int.reduceLE, Int.reduceGT, Int.reduceGE, Int.reduceAdd, Int.reduceSub, Int.reduceMul, Int.reduceNeg, Int.reduceEq, Int.reduceNe, Int.reduceBNe, Int.reduceBEq, Int.reduceDiv, hch]
        all_goals refine ex_call (by exact hFrom _) ?_
        all_goals simp only [go_sem, ↓reduceIte, Nat.reduceLT, Nat.reduceLeDiff, Nat.reduceAdd, Nat.reduceSub, Nat.reduceMul, Nat.reduceEqDiff, Nat.reduceBEq, Nat.reduceMod, Nat.reduceDiv, Int.reduceToNat, reduceCtorEq, Int.reduceLT, Int.reduceLE, Int.reduceGT, Int.reduceGE, Int.reduceAdd, Int.reduceSub, Int.reduceMul, Int.reduceNeg, Int.reduceEq, Int.reduceNe, Int.reduceBNe, Int.reduceBEq, Int.reduceDiv, hch]
        all_goals rw [hch] at hC
        all_goals refine ex_call (by exact hC) ?_
        all_goals simp only [go_sem, ↓reduceIte, Nat.reduceLT, Nat.reduceLeDiff, Nat.reduceAdd, Nat.reduceSub, Nat.reduceMul, Nat.reduceEqDiff, Nat.reduceBEq, Nat.reduceMod, Nat.reduceDiv, Int.reduceToNat, reduceCtorEq, Int.reduceLT, Int.reduceLE, Int.reduceGT, Int.reduceGE, Int.reduceAdd, Int.reduceSub, Int.reduceMul, Int.reduceNeg, Int.reduceEq, Int.reduceNe, Int.reduceBNe, Int.reduceBEq, Int.reduceDiv]
        case false.false | true.refine_1.false | true.refine_2.false =>
          refine ex_call (c_law14_num _) ?_
          simp only [go_sem, ↓reduceIte, Nat.reduceLT, Nat.reduceLeDiff, Nat.reduceAdd, Nat.reduceSub, Nat.reduceMul, Nat.reduceEqDiff, Nat.reduceBEq, Nat.reduceMod, Nat.reduceDiv, Int.reduceToNat, reduceCtorEq, Int.reduceLT, Int.reduceLE, Int.reduceGT, Int.reduceGE, Int.reduceAdd, Int.reduceSub, Int.reduceMul, Int.reduceNeg, Int.reduceEq, Int.reduceNe, Int.reduceBNe, Int.reduceBEq, Int.reduceDiv]
          refine ex_call (c_law14_num _) ?_
          simp only [go_sem, ↓reduceIte, Nat.reduceLT, Nat.reduceLeDiff, Nat.reduceAdd, Nat.reduceSub, Nat.reduceMul, Nat.reduceEqDiff, Nat.reduceBEq, Nat.reduceMod, Nat.reduceDiv, Int.reduceToNat, reduceCtorEq, Int.reduceLT, Int.reduceLE, Int.reduceGT, Int.reduceGE, Int.reduceAdd, Int.reduceSub, Int.reduceMul, Int.reduceNeg, Int.reduceEq, Int.reduceNe, Int.reduceBNe, Int.reduceBEq, Int.reduceDiv]
          refine next (i + 1) _ (by omega) (by omega) ?_
          rw [← wi64_nat i (by omega)]
          simp only [ASt.keep, consIf, keepL, keepV, AV.isBot, List.contains_cons, List.contains_nil, Nat.reduceBEq, Bool.or_false, Bool.false_or, Bool.or_true, Bool.true_or, beq_self_eq_true, Bool.false_eq_true, ↓reduceIte, if_false, if_true]
        all_goals have hm := (chainOk_iff.1 hch).mounts
        all_goals refine ex_call (by exact hRef _) ?_
        all_goals simp only [go_sem, ↓reduceIte, Nat.reduceLT, Nat.reduceLeDiff, Nat.reduceAdd, Nat.reduceSub, Nat.reduceMul, Nat.reduceEqDiff, Nat.reduceBEq, Nat.reduceMod, Nat.reduceDiv, Int.reduceToNat, reduceCtorEq, Int.reduceLT, Int.reduceLE, Int.reduceGT, Int.reduceGE, Int.reduceAdd, Int.reduceSub, Int.reduceMul, Int.reduceNeg, Int.reduceEq, Int.reduceNe, Int.reduceBNe, Int.reduceBEq, Int.reduceDiv, lows_eq hm, highs_eq hm]
        all_goals (refine ex_draw [] [] (.quiet 0 (.one 1 (.quiet 2 (.quiet 3 (.quiet 4 (.one 5 (.quiet 6 (.quiet 7 (.quiet 8 (.quiet 9 (.quiet 10 (.one 11 (.quiet 12 (.quiet 13 (.quiet 14 (.quiet 15 (.quiet 16 (.one 17 (.quiet 18 (.quiet 19 (.quiet 20 (.quiet 21 (.quiet 22 (.quiet 24 (.quiet 25 (.one 23 (.one 26 (.quiet 27 (.quiet 28 (.fin)))))))))))))))))))))))))))))) (by kernel_rfl) ?_)
        all_goals simp only [go_sem, ↓reduceIte, Nat.reduceLT, Nat.reduceLeDiff, Nat.reduceAdd, Nat.reduceSub, Nat.reduceMul, Nat.reduceEqDiff, Nat.reduceBEq, Nat.reduceMod, Nat.reduceDiv, Int.reduceToNat, reduceCtorEq, Int.reduceLT, Int.reduceLE, Int.reduceGT, Int.reduceGE, Int.reduceAdd, Int.reduceSub, Int.reduceMul, Int.reduceNeg, Int.reduceEq, Int.reduceNe, Int.reduceBNe, Int.reduceBEq, Int.reduceDiv]
        all_goals refine ex_call (c_law14_num _) ?_
        all_goals simp only [go_sem, ↓reduceIte, Nat.reduceLT, Nat.reduceLeDiff, Nat.reduceAdd, Nat.reduceSub, Nat.reduceMul, Nat.reduceEqDiff, Nat.reduceBEq, Nat.reduceMod, Nat.reduceDiv, Int.reduceToNat, reduceCtorEq, Int.reduceLT, Int.reduceLE, Int.reduceGT, Int.reduceGE, Int.reduceAdd, Int.reduceSub, Int.reduceMul, Int.reduceNeg, Int.reduceEq, Int.reduceNe, Int.reduceBNe, Int.reduceBEq, Int.reduceDiv]
        all_goals refine ex_call (c_law14_num _) ?_
        all_goals simp only [go_sem, ↓reduceIte, Nat.reduceLT, Nat.reduceLeDiff, Nat.reduceAdd, Nat.reduceSub, Nat.reduceMul, Nat.reduceEqDiff, Nat.reduceBEq, Nat.reduceMod, Nat.reduceDiv, Int.reduceToNat, reduceCtorEq, Int.reduceLT, Int.reduceLE, Int.reduceGT, Int.reduceGE, Int.reduceAdd, Int.reduceSub, Int.reduceMul, Int.reduceNeg, Int.reduceEq, Int.reduceNe, Int.reduceBNe, Int.reduceBEq, Int.reduceDiv]
        all_goals refine ex_call_dull (.cons (dsl _ _ _) (.cons (dsl _ _ _) .nil)) (by exact hE1 _) ?_
        all_goals simp only [go_sem, ↓reduceIte, Nat.reduceLT, Nat.reduceLeDiff, Nat.reduceAdd, Nat.reduceSub, Nat.reduceMul, Nat.reduceEqDiff, Nat.reduceBEq, Nat.reduceMod, Nat.reduceDiv, Int.reduceToNat, reduceCtorEq, Int.reduceLT, Int.reduceLE, Int.reduceGT, Int.reduceGE, Int.reduceAdd, Int.reduceSub, Int.reduceMul, Int.reduceNeg, Int.reduceEq, Int.reduceNe, Int.reduceBNe, Int.reduceBEq, Int.reduceDiv]
        all_goals refine ex_call_dull (.cons (dsl _ _ _) (.cons (dsl _ _ _) .nil)) (by exact hE2 _) ?_
        all_goals simp only [go_sem, ↓reduceIte, Nat.reduceLT, Nat.reduceLeDiff, Nat.reduceAdd, Nat.reduceSub, Nat.reduceMul, Nat.reduceEqDiff, Nat.reduceBEq, Nat.reduceMod, Nat.reduceDiv, Int.reduceToNat, reduceCtorEq, Int.reduceLT, Int.reduceLE, Int.reduceGT, Int.reduceGE, Int.reduceAdd, Int.reduceSub, Int.reduceMul, Int.reduceNeg, Int.reduceEq, Int.reduceNe, Int.reduceBNe, Int.reduceBEq, Int.reduceDiv, List.length_map, hlen, hd]
        all_goals (repeat with_reducible refine And.intro (by first | omega | (simp only [List.length_cons, List.length_append, List.length_nil, List.length_map, List.length_take, List.length_drop, List.length_set]; omega)) ?_)
        all_goals try simp only [go_sem, ↓reduceIte, Nat.reduceLT, Nat.reduceLeDiff, Nat.reduceAdd, Nat.reduceSub, Nat.reduceMul, Nat.reduceEqDiff, Nat.reduceBEq, Nat.reduceMod, Nat.reduceDiv, Int.reduceToNat, reduceCtorEq, Int.reduceLT, Int.reduceLE, Int.reduceGT, Int.reduceGE, Int.reduceAdd, Int.reduceSub, Int.reduceMul, Int.reduceNeg, Int.reduceEq, Int.reduceNe, Int.reduceBNe, Int.reduceBEq, Int.reduceDiv, List.length_map, hlen, hd]
        all_goals refine ex_call_dull (.cons (dsl _ _ _) (.cons (.refl _) .nil)) (by exact hE3) ?_
        all_goals simp only [go_sem, ↓reduceIte, Nat.reduceLT, Nat.reduceLeDiff, Nat.reduceAdd, Nat.reduceSub, Nat.reduceMul, Nat.reduceEqDiff, Nat.reduceBEq, Nat.reduceMod, Nat.reduceDiv, Int.reduceToNat, reduceCtorEq, Int.reduceLT, Int.reduceLE, Int.reduceGT, Int.reduceGE, Int.reduceAdd, Int.reduceSub, Int.reduceMul, Int.reduceNeg, Int.reduceEq, Int.reduceNe, Int.reduceBNe, Int.reduceBEq, Int.reduceDiv]
        all_goals (refine next (i + 1) _ (by omega) (by omega) ?_)
        all_goals (rw [← wi64_nat i (by omega)])
        all_goals simp only [ASt.keep, consIf, keepL, keepV, AV.isBot, List.contains_cons, List.contains_nil, Nat.reduceBEq, Bool.or_false, Bool.false_or, Bool.or_true, Bool.true_or, beq_self_eq_true, Bool.false_eq_true, ↓reduceIte, if_false, if_true]
      · simp only [go_sem, ↓reduceIte, Nat.reduceLT, Nat.reduceLeDiff, Nat.reduceAdd, Nat.reduceSub, Nat.reduceMul, Nat.reduceEqDiff, Nat.reduceBEq, Nat.reduceMod, Nat.reduceDiv, Int.reduceToNat, reduceCtorEq, Int.reduceLT, Int.reduceLE, Int.reduceGT, Int.reduceGE, Int.reduceAdd, Int.reduceSub, Int.reduceMul, Int.reduceNeg, Int.reduceEq, Int.reduceNe, Int.reduceBNe, Int.reduceBEq, Int.reduceDiv]
        refine ex_call (by exact c_law14_wakes) ?_
        simp only [go_sem, ↓reduceIte, Nat.reduceLT, Nat.reduceLeDiff, Nat.reduceAdd, Nat.reduceSub, Nat.reduceMul, Nat.reduceEqDiff, Nat.reduceBEq, Nat.reduceMod, Nat.reduceDiv, Int.reduceToNat, reduceCtorEq, Int.reduceLT, Int.reduceLE, Int.reduceGT, Int.reduceGE, Int.reduceAdd, Int.reduceSub, Int.reduceMul, Int.reduceNeg, Int.reduceEq, Int.reduceNe, Int.reduceBNe, Int.reduceBEq, Int.reduceDiv]
        refine finOne ?_ (fun _ e => by cases e)
        show resOf _ _ [.tmp 2] = _
        simp only [go_sem, ↓reduceIte, Nat.reduceLT, Nat.reduceLeDiff, Nat.reduceAdd, Nat.reduceSub, Nat.reduceMul, Nat.reduceEqDiff, Nat.reduceBEq, Nat.reduceMod, Nat.reduceDiv, Int.reduceToNat, reduceCtorEq, Int.reduceLT, Int.reduceLE, Int.reduceGT, Int.reduceGE, Int.reduceAdd, Int.reduceSub, Int.reduceMul, Int.reduceNeg, Int.reduceEq, Int.reduceNe, Int.reduceBNe, Int.reduceBEq, Int.reduceDiv]
theorem law_ChainCuts (x : AV) (h : Ty ti 28 x) : Contract Try.prog 7 [x] (.bool true) := by
  obtain ⟨p, rfl, hp⟩ := ty_script h
  exact c_ChainCuts p hp
end Go.Proofs.Ytfdophapfbllcaa.VA
