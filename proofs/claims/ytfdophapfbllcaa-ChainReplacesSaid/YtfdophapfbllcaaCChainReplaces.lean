/- ChainReplaces: the law answers true, whatever it is asked. -/
import Derived.Test.YtfdophapfbllcaaCChain5
namespace Go.Proofs.Ytfdophapfbllcaa.VA
set_option maxRecDepth 10000
set_option linter.unusedSimpArgs false
set_option linter.unusedVariables false
set_option maxHeartbeats 16000000

def placed (x y : TxD) : TxD := ⟨y.frm, y.nonce, x.tip, x.cap, x.bcap, x.value, x.gas, x.hashes, x.blobs⟩
theorem placed_ok {x y : TxD} (hx : x.ok) (hy : y.ok) : (placed x y).ok := ⟨hy.frm, hy.nonce, hx.gas, hx.tip, hx.cap, hx.bcap, hx.value, hx.hashes, hx.blobs, hx.blob⟩
theorem c_ChainReplaces (p : ScriptD) (h : p.ok) : Contract Try.prog 4 [p.av] (.bool true) := by
  have hcl := h.cl
  unfold reachBytes at hcl
  have hC := c_ref14_Chain p.c h.cl h.c
  refine contract_of (C := cf 120 [1, 2, 3, 4, 5, 6, 7, 8, 22, 31, 61, 71, 82, 86, 118] (fun _ => [])) (cf_ok _ _ _) (fn := Try.f4) Try.func4 (by kernel_rfl) rfl (by kernel_rfl) (by simp [cf]) (plain1 p.plain) (by decide) (noCell (by kernel_rfl)) ?_
  simp only [go_sem, ↓reduceIte, Nat.reduceLT, Nat.reduceLeDiff, Nat.reduceAdd, Nat.reduceSub, Nat.reduceMul, Nat.reduceEqDiff, Nat.reduceBEq, Nat.reduceMod, Nat.reduceDiv, Int.reduceToNat, reduceCtorEq, Int.reduceLT, Int.reduceLE, Int.reduceGT, Int.reduceGE, Int.reduceAdd, Int.reduceSub, Int.reduceMul, Int.reduceNeg, Int.reduceEq, Int.reduceNe, Int.reduceBNe, Int.reduceBEq, Int.reduceDiv, ScriptD.av, txs, ints]
  refine ex_call (by exact c_law14_heavy p h) ?_
  cases hh : heavy14 p
  case' true =>
    simp only [go_sem, ↓reduceIte, Nat.reduceLT, Nat.reduceLeDiff, Nat.reduceAdd, Nat.reduceSub, Nat.reduceMul, Nat.reduceEqDiff, Nat.reduceBEq, Nat.reduceMod, Nat.reduceDiv, Int.reduceToNat, reduceCtorEq, Int.reduceLT, Int.reduceLE, Int.reduceGT, Int.reduceGE, Int.reduceAdd, Int.reduceSub, Int.reduceMul, Int.reduceNeg, Int.reduceEq, Int.reduceNe, Int.reduceBNe, Int.reduceBEq, Int.reduceDiv]
    refine finOne ?_ (fun _ e => by cases e)
    show resOf _ _ [.tmp 2] = _
    simp only [go_sem, ↓reduceIte, Nat.reduceLT, Nat.reduceLeDiff, Nat.reduceAdd, Nat.reduceSub, Nat.reduceMul, Nat.reduceEqDiff, Nat.reduceBEq, Nat.reduceMod, Nat.reduceDiv, Int.reduceToNat, reduceCtorEq, Int.reduceLT, Int.reduceLE, Int.reduceGT, Int.reduceGE, Int.reduceAdd, Int.reduceSub, Int.reduceMul, Int.reduceNeg, Int.reduceEq, Int.reduceNe, Int.reduceBNe, Int.reduceBEq, Int.reduceDiv]
  simp only [go_sem, ↓reduceIte, Nat.reduceLT, Nat.reduceLeDiff, Nat.reduceAdd, Nat.reduceSub, Nat.reduceMul, Nat.reduceEqDiff, Nat.reduceBEq, Nat.reduceMod, Nat.reduceDiv, Int.reduceToNat, reduceCtorEq, Int.reduceLT, Int.reduceLE, Int.reduceGT, Int.reduceGE, Int.reduceAdd, Int.reduceSub, Int.reduceMul, Int.reduceNeg, Int.reduceEq, Int.reduceNe, Int.reduceBNe, Int.reduceBEq, Int.reduceDiv]
  refine ex_call (by exact hC) ?_
  cases hch : chainOk p.c
  case' false =>
    simp only [go_sem, ↓reduceIte, Nat.reduceLT, Nat.reduceLeDiff, Nat.reduceAdd, Nat.reduceSub, Nat.reduceMul, Nat.reduceEqDiff, Nat.reduceBEq, Nat.reduceMod, Nat.reduceDiv, Int.reduceToNat, reduceCtorEq, Int.reduceLT, Int.reduceLE, Int.reduceGT, Int.reduceGE, Int.reduceAdd, Int.reduceSub, Int.reduceMul, Int.reduceNeg, Int.reduceEq, Int.reduceNe, Int.reduceBNe, Int.reduceBEq, Int.reduceDiv]
    refine finOne ?_ (fun _ e => by cases e)
    show resOf _ _ [.tmp 2] = _
    simp only [go_sem, ↓reduceIte, Nat.reduceLT, Nat.reduceLeDiff, Nat.reduceAdd, Nat.reduceSub, Nat.reduceMul, Nat.reduceEqDiff, Nat.reduceBEq, Nat.reduceMod, Nat.reduceDiv, Int.reduceToNat, reduceCtorEq, Int.reduceLT, Int.reduceLE, Int.reduceGT, Int.reduceGE, Int.reduceAdd, Int.reduceSub, Int.reduceMul, Int.reduceNeg, Int.reduceEq, Int.reduceNe, Int.reduceBNe, Int.reduceBEq, Int.reduceDiv]
  have hcp := chainOk_iff.1 hch
  simp only [go_sem, ↓reduceIte, Nat.reduceLT, Nat.reduceLeDiff, Nat.reduceAdd, Nat.reduceSub, Nat.reduceMul, Nat.reduceEqDiff, Nat.reduceBEq, Nat.reduceMod, Nat.reduceDiv, Int.reduceToNat, reduceCtorEq, Int.reduceLT, Int.reduceLE, Int.reduceGT, Int.reduceGE, Int.reduceAdd, Int.reduceSub, Int.reduceMul, Int.reduceNeg, Int.reduceEq, Int.reduceNe, Int.reduceBNe, Int.reduceBEq, Int.reduceDiv, List.length_map]
  refine ex_br (fun hz => ?_) (fun hz => ?_)
  · simp only [go_sem, ↓reduceIte, Nat.reduceLT, Nat.reduceLeDiff, Nat.reduceAdd, Nat.reduceSub, Nat.reduceMul, Nat.reduceEqDiff, Nat.reduceBEq, Nat.reduceMod, Nat.reduceDiv, Int.reduceToNat, reduceCtorEq, Int.reduceLT, Int.reduceLE, Int.reduceGT, Int.reduceGE, Int.reduceAdd, Int.reduceSub, Int.reduceMul, Int.reduceNeg, Int.reduceEq, Int.reduceNe, Int.reduceBNe, Int.reduceBEq, Int.reduceDiv]
    refine finOne ?_ (fun _ e => by cases e)
    show resOf _ _ [.tmp 2] = _
    simp only [go_sem, ↓reduceIte, Nat.reduceLT, Nat.reduceLeDiff, Nat.reduceAdd, Nat.reduceSub, Nat.reduceMul, Nat.reduceEqDiff, Nat.reduceBEq, Nat.reduceMod, Nat.reduceDiv, Int.reduceToNat, reduceCtorEq, Int.reduceLT, Int.reduceLE, Int.reduceGT, Int.reduceGE, Int.reduceAdd, Int.reduceSub, Int.reduceMul, Int.reduceNeg, Int.reduceEq, Int.reduceNe, Int.reduceBNe, Int.reduceBEq, Int.reduceDiv]
  · have hpos : 0 < p.c.length := by
      have : ¬ (p.c.length : Int) = 0 := by simpa using hz
      omega
    obtain ⟨a, ea⟩ : ∃ a, p.c[0]? = some a := ⟨_, List.getElem?_eq_getElem hpos⟩
    simp only [go_sem, ↓reduceIte, Nat.reduceLT, Nat.reduceLeDiff, Nat.reduceAdd, Nat.reduceSub, Nat.reduceMul, Nat.reduceEqDiff, Nat.reduceBEq, Nat.reduceMod, Nat.reduceDiv, Int.reduceToNat, reduceCtorEq, Int.reduceLT, Int.reduceLE, Int.reduceGT, Int.reduceGE, Int.reduceAdd, Int.reduceSub, Int.reduceMul, Int.reduceNeg, Int.reduceEq, Int.reduceNe, Int.reduceBNe, Int.reduceBEq, Int.reduceDiv]
    refine ex_iter [1, 3] (fun i : Nat => ⟨[(1, .var 1 0), (3, .int .i64 i)], [(1, [.sl false 21 (p.c.map TxD.av), .sl false 21 (p.l.map TxD.av), .sl false 1 (p.n.map (AV.int .i64)), .int .u64 (lim p.bal 0), .int .u64 (lim p.bal 1), .int .u64 (lim p.bal 2), .int .u64 (lim p.bal 3)])]⟩) (fun i => i ≤ 12) (fun i => 12 - i) 0 ?_ ?_ ?_
    · simp only [ASt.keep, consIf, keepL, keepV, AV.isBot, List.contains_cons, List.contains_nil, Nat.reduceBEq, Bool.or_false, Bool.false_or, Bool.or_true, Bool.true_or, beq_self_eq_true, Bool.false_eq_true, ↓reduceIte, if_false, if_true]
      rfl
    · exact Nat.zero_le _
    · rintro m i hi next
      simp only [go_sem, ↓reduceIte, Nat.reduceLT, Nat.reduceLeDiff, Nat.reduceAdd, Nat.reduceSub, Nat.reduceMul, Nat.reduceEqDiff, Nat.reduceBEq, Nat.reduceMod, Nat.reduceDiv, Int.reduceToNat, reduceCtorEq, Int.reduceLT, Int.reduceLE, Int.reduceGT, Int.reduceGE, Int.reduceAdd, Int.reduceSub, Int.reduceMul, Int.reduceNeg, Int.reduceEq, Int.reduceNe, Int.reduceBNe, Int.reduceBEq, Int.reduceDiv, List.length_map]
      refine ex_joinB 31 (decide (i < p.l.length) && decide (i < 12)) ?_ ?_
      · repeat' (first | (refine ex_split (fun h => ?_) (fun h => ?_)) | (with_reducible refine And.intro (by omega) ?_) |
          (simp only [go_sem, ↓reduceIte, Nat.reduceLT, Nat.reduceLeDiff, Nat.reduceAdd, Nat.reduceSub, Nat.reduceMul, Nat.reduceEqDiff, Nat.reduceBEq, Nat.reduceMod, Nat.reduceDiv, Int.reduceToNat, reduceCtorEq, Int.reduceLT, Int.reduceLE, Int.reduceGT, Int.reduceGE, Int.reduceAdd, Int.reduceSub, Int.reduceMul, Int.reduceNeg, Int.reduceEq, Int.reduceNe, Int.reduceBNe, Int.reduceBEq, Int.reduceDiv, List.length_map]))
        all_goals (try simp only [ASt.mk.injEq, List.cons.injEq, Prod.mk.injEq, AV.bool.injEq, true_and, and_true, eq_self])
        all_goals first | (simp_all; done) | (simp_all; omega) | (rw [Bool.eq_iff_iff]; simp only [List.length_map, Bool.or_eq_true, Bool.and_eq_true, Bool.not_eq_true', Bool.not_eq_false', decide_eq_true_eq, decide_eq_false_iff_not, bne_iff_ne, beq_iff_eq, ne_eq, true_iff, iff_true, false_iff, iff_false, Bool.false_eq_true, not_false_eq_true, not_true_eq_false] at *; omega)
      simp only [go_sem, ↓reduceIte, Nat.reduceLT, Nat.reduceLeDiff, Nat.reduceAdd, Nat.reduceSub, Nat.reduceMul, Nat.reduceEqDiff, Nat.reduceBEq, Nat.reduceMod, Nat.reduceDiv, Int.reduceToNat, reduceCtorEq, Int.reduceLT, Int.reduceLE, Int.reduceGT, Int.reduceGE, Int.reduceAdd, Int.reduceSub, Int.reduceMul, Int.reduceNeg, Int.reduceEq, Int.reduceNe, Int.reduceBNe, Int.reduceBEq, Int.reduceDiv]
      refine ex_br (fun hc => ?_) (fun hc => ?_)
      · have hlt : i < p.l.length ∧ i < 12 := by simpa using hc
        obtain ⟨x, ex⟩ : ∃ x, p.l[i]? = some x := ⟨_, List.getElem?_eq_getElem hlt.1⟩
        have hx := h.l x (List.mem_of_getElem? ex)
        have ht : Int.tmod (i : Int) (p.c.length : Int) = ((i % p.c.length : Nat) : Int) := by
          rw [Int.tmod_eq_emod_of_nonneg (by omega)]; omega
        have hml := Nat.mod_lt i hpos
        obtain ⟨q, eq⟩ : ∃ q, q = i % p.c.length := ⟨_, rfl⟩
        rw [← eq] at hml ht
        obtain ⟨y, ey⟩ : ∃ y, p.c[q]? = some y := ⟨_, List.getElem?_eq_getElem hml⟩
        have hy := h.c y (List.mem_of_getElem? ey)
        have hlk := hcp.link q a y ea ey
        have hto := placed_ok hx hy
        obtain ⟨l2, el2⟩ : ∃ l2, l2 = p.c.set q (placed x y) := ⟨_, rfl⟩
        have hlen : l2.length = p.c.length := by rw [el2, List.length_set]
        have hout : addOut p.c (placed x y) = l2 := by
          unfold addOut
          rw [ea]
          show (if y.nonce < a.nonce + (p.c.length : Int) then p.c.set (y.nonce - a.nonce).toNat (placed x y) else p.c ++ [placed x y]) = l2
          rw [if_pos (by omega), el2, show (y.nonce - a.nonce).toNat = q by omega]
        have herr : validTx (placed x y) = true → addErr p.c (placed x y) = if chainOk l2 = true then 0 else 8 := fun hv => by
          unfold addErr
          rw [ea]
          show (if chainOk p.c = true ∧ validTx (placed x y) = true ∧ y.frm = a.frm then (if y.nonce < a.nonce then 9 else if a.nonce + (p.c.length : Int) < y.nonce then 10 else if y.nonce = a.nonce + (p.c.length : Int) ∧ 6 ≤ p.c.length then 2 else if chainOk (addOut p.c (placed x y)) = true then 0 else 8) else 1 : Int) = _
          rw [if_pos ⟨hch, hv, hlk.1⟩, if_neg (by omega), if_neg (by omega), if_neg (by omega), hout]
        simp only [go_sem, ↓reduceIte, Nat.reduceLT, Nat.reduceLeDiff, Nat.reduceAdd, Nat.reduceSub, Nat.reduceMul, Nat.reduceEqDiff, Nat.reduceBEq, Nat.reduceMod, Nat.reduceDiv, Int.reduceToNat, reduceCtorEq, Int.reduceLT, Int.reduceLE, Int.reduceGT, Int.reduceGE, Int.reduceAdd, Int.reduceSub, Int.reduceMul, Int.reduceNeg, Int.reduceEq, Int.reduceNe, Int.reduceBNe, Int.reduceBEq, Int.reduceDiv, List.length_map, List.getElem?_map, ex, Int.toNat_natCast, TxD.av]
        repeat with_reducible refine And.intro (by first | omega | (simp only [List.length_cons, List.length_append, List.length_nil, List.length_map, List.length_take, List.length_drop, List.length_set]; omega)) ?_
        refine ex_call (by exact c_CopyTx x hx) ?_
        simp only [go_sem, ↓reduceIte, Nat.reduceLT, Nat.reduceLeDiff, Nat.reduceAdd, Nat.reduceSub, Nat.reduceMul, Nat.reduceEqDiff, Nat.reduceBEq, Nat.reduceMod, Nat.reduceDiv, Int.reduceToNat, reduceCtorEq, Int.reduceLT, Int.reduceLE, Int.reduceGT, Int.reduceGE, Int.reduceAdd, Int.reduceSub, Int.reduceMul, Int.reduceNeg, Int.reduceEq, Int.reduceNe, Int.reduceBNe, Int.reduceBEq, Int.reduceDiv, List.length_map, ht, TxD.av, TxD.cells, ints, strs]
        repeat with_reducible refine And.intro (by first | omega | (simp only [List.length_cons, List.length_append, List.length_nil, List.length_map, List.length_take, List.length_drop, List.length_set]; omega)) ?_
        refine ex_draw [7, 11, 13, 15] [] (.quiet 0 (.quiet 2 (.quiet 6 (.quiet 8 (.two 1 (.quiet 3 (.quiet 4 (.two 5 (.quiet 12 (.unlock (.two 7 (.quiet 9 (.quiet 10 (.two 11 (.one 13 (.quiet 14 (.one 15 (.fin)))) 13 (.one 11 (.quiet 14 (.one 15 (.fin))))))) 13 (.one 7 (.quiet 9 (.quiet 10 (.one 11 (.quiet 14 (.one 15 (.fin)))))))))) 7 (.quiet 9 (.quiet 10 (.two 5 (.quiet 12 (.unlock (.two 11 (.one 13 (.quiet 14 (.one 15 (.fin)))) 13 (.one 11 (.quiet 14 (.one 15 (.fin))))))) 11 (.one 5 (.quiet 12 (.unlock (.one 13 (.quiet 14 (.one 15 (.fin))))))))))))) 7 (.quiet 9 (.quiet 10 (.two 1 (.quiet 3 (.quiet 4 (.two 5 (.quiet 12 (.unlock (.two 11 (.one 13 (.quiet 14 (.one 15 (.fin)))) 13 (.one 11 (.quiet 14 (.one 15 (.fin))))))) 11 (.one 5 (.quiet 12 (.unlock (.one 13 (.quiet 14 (.one 15 (.fin)))))))))) 11 (.one 1 (.quiet 3 (.quiet 4 (.one 5 (.quiet 12 (.unlock (.one 13 (.quiet 14 (.one 15 (.fin)))))))))))))))))) (by kernel_rfl) ?_
        refine ex_drawn ⟨[(1, .var 1 0), (3, .int .i64 i), (4, .var 4 0), (5, .int .i64 q), (31, .bool (decide (i < p.l.length) && decide (i < 12)))], [(1, [.sl false 21 (p.c.map TxD.av), .sl false 21 (p.l.map TxD.av), .sl false 1 (p.n.map (AV.int .i64)), .int .u64 (lim p.bal 0), .int .u64 (lim p.bal 1), .int .u64 (lim p.bal 2), .int .u64 (lim p.bal 3)]), (4, (placed x y).cells)]⟩ ?_ ?_
        · repeat' (first | (with_reducible refine And.intro ?_ ?_) | (with_reducible refine And.intro (by omega) ?_) |
            (simp only [go_sem, ↓reduceIte, Nat.reduceLT, Nat.reduceLeDiff, Nat.reduceAdd, Nat.reduceSub, Nat.reduceMul, Nat.reduceEqDiff, Nat.reduceBEq, Nat.reduceMod, Nat.reduceDiv, Int.reduceToNat, reduceCtorEq, Int.reduceLT, Int.reduceLE, Int.reduceGT, Int.reduceGE, Int.reduceAdd, Int.reduceSub, Int.reduceMul, Int.reduceNeg, Int.reduceEq, Int.reduceNe, Int.reduceBNe, Int.reduceBEq, Int.reduceDiv, ex_ord_two, List.length_map, List.getElem?_map, ey, Int.toNat_natCast, TxD.av, TxD.cells, placed, ints, strs]))
          all_goals omega
        simp only [go_sem, ↓reduceIte, Nat.reduceLT, Nat.reduceLeDiff, Nat.reduceAdd, Nat.reduceSub, Nat.reduceMul, Nat.reduceEqDiff, Nat.reduceBEq, Nat.reduceMod, Nat.reduceDiv, Int.reduceToNat, reduceCtorEq, Int.reduceLT, Int.reduceLE, Int.reduceGT, Int.reduceGE, Int.reduceAdd, Int.reduceSub, Int.reduceMul, Int.reduceNeg, Int.reduceEq, Int.reduceNe, Int.reduceBNe, Int.reduceBEq, Int.reduceDiv, TxD.cells, ints, strs]
        refine ex_call (by exact c_ref7_Tx (placed x y) hto) ?_
        cases hv : validTx (placed x y)
        · simp only [go_sem, ↓reduceIte, Nat.reduceLT, Nat.reduceLeDiff, Nat.reduceAdd, Nat.reduceSub, Nat.reduceMul, Nat.reduceEqDiff, Nat.reduceBEq, Nat.reduceMod, Nat.reduceDiv, Int.reduceToNat, reduceCtorEq, Int.reduceLT, Int.reduceLE, Int.reduceGT, Int.reduceGE, Int.reduceAdd, Int.reduceSub, Int.reduceMul, Int.reduceNeg, Int.reduceEq, Int.reduceNe, Int.reduceBNe, Int.reduceBEq, Int.reduceDiv]
          refine next (i + 1) _ (by omega) (by omega) ?_
          rw [← wi64_nat i (by omega)]
          simp only [ASt.keep, consIf, keepL, keepV, AV.isBot, List.contains_cons, List.contains_nil, Nat.reduceBEq, Bool.or_false, Bool.false_or, Bool.or_true, Bool.true_or, beq_self_eq_true, Bool.false_eq_true, ↓reduceIte, if_false, if_true]
        · have hA := c_chain_Add p.c (placed x y) h.cl h.c hto
          rw [herr hv, hout] at hA
          simp only [go_sem, ↓reduceIte, Nat.reduceLT, Nat.reduceLeDiff, Nat.reduceAdd, Nat.reduceSub, Nat.reduceMul, Nat.reduceEqDiff, Nat.reduceBEq, Nat.reduceMod, Nat.reduceDiv, Int.reduceToNat, reduceCtorEq, Int.reduceLT, Int.reduceLE, Int.reduceGT, Int.reduceGE, Int.reduceAdd, Int.reduceSub, Int.reduceMul, Int.reduceNeg, Int.reduceEq, Int.reduceNe, Int.reduceBNe, Int.reduceBEq, Int.reduceDiv]
          refine ex_call (by exact hA) ?_
          cases hc2 : chainOk l2
          · simp only [go_sem, ↓reduceIte, Nat.reduceLT, Nat.reduceLeDiff, Nat.reduceAdd, Nat.reduceSub, Nat.reduceMul, Nat.reduceEqDiff, Nat.reduceBEq, Nat.reduceMod, Nat.reduceDiv, Int.reduceToNat, reduceCtorEq, Int.reduceLT, Int.reduceLE, Int.reduceGT, Int.reduceGE, Int.reduceAdd, Int.reduceSub, Int.reduceMul, Int.reduceNeg, Int.reduceEq, Int.reduceNe, Int.reduceBNe, Int.reduceBEq, Int.reduceDiv]
            refine ex_call (c_law14_num _) ?_
            simp only [go_sem, ↓reduceIte, Nat.reduceLT, Nat.reduceLeDiff, Nat.reduceAdd, Nat.reduceSub, Nat.reduceMul, Nat.reduceEqDiff, Nat.reduceBEq, Nat.reduceMod, Nat.reduceDiv, Int.reduceToNat, reduceCtorEq, Int.reduceLT, Int.reduceLE, Int.reduceGT, Int.reduceGE, Int.reduceAdd, Int.reduceSub, Int.reduceMul, Int.reduceNeg, Int.reduceEq, Int.reduceNe, Int.reduceBNe, Int.reduceBEq, Int.reduceDiv]
            refine next (i + 1) _ (by omega) (by omega) ?_
            rw [← wi64_nat i (by omega)]
            simp only [ASt.keep, consIf, keepL, keepV, AV.isBot, List.contains_cons, List.contains_nil, Nat.reduceBEq, Bool.or_false, Bool.false_or, Bool.or_true, Bool.true_or, beq_self_eq_true, Bool.false_eq_true, ↓reduceIte, if_false, if_true]
          · simp only [go_sem, ↓reduceIte, Nat.reduceLT, Nat.reduceLeDiff, Nat.reduceAdd, Nat.reduceSub, Nat.reduceMul, Nat.reduceEqDiff, Nat.reduceBEq, Nat.reduceMod, Nat.reduceDiv, Int.reduceToNat, reduceCtorEq, Int.reduceLT, Int.reduceLE, Int.reduceGT, Int.reduceGE, Int.reduceAdd, Int.reduceSub, Int.reduceMul, Int.reduceNeg, Int.reduceEq, Int.reduceNe, Int.reduceBNe, Int.reduceBEq, Int.reduceDiv]
            refine ex_call (c_law14_num _) ?_
            simp only [go_sem, ↓reduceIte, Nat.reduceLT, Nat.reduceLeDiff, Nat.reduceAdd, Nat.reduceSub, Nat.reduceMul, Nat.reduceEqDiff, Nat.reduceBEq, Nat.reduceMod, Nat.reduceDiv, Int.reduceToNat, reduceCtorEq, Int.reduceLT, Int.reduceLE, Int.reduceGT, Int.reduceGE, Int.reduceAdd, Int.reduceSub, Int.reduceMul, Int.reduceNeg, Int.reduceEq, Int.reduceNe, Int.reduceBNe, Int.reduceBEq, Int.reduceDiv]
            refine ex_call (c_law14_num _) ?_
            simp only [go_sem, ↓reduceIte, Nat.reduceLT, Nat.reduceLeDiff, Nat.reduceAdd, Nat.reduceSub, Nat.reduceMul, Nat.reduceEqDiff, Nat.reduceBEq, Nat.reduceMod, Nat.reduceDiv, Int.reduceToNat, reduceCtorEq, Int.reduceLT, Int.reduceLE, Int.reduceGT, Int.reduceGE, Int.reduceAdd, Int.reduceSub, Int.reduceMul, Int.reduceNeg, Int.reduceEq, Int.reduceNe, Int.reduceBNe, Int.reduceBEq, Int.reduceDiv, List.length_map, hlen, bne_self_eq_false]
            refine ex_iter [1, 3, 4, 5, 6, 8] (fun k : Nat => ⟨[(1, .var 1 0), (3, .int .i64 i), (4, .var 4 0), (5, .int .i64 q), (6, .sl false 21 (l2.map TxD.av)), (8, .int .i64 k)], [(1, [.sl false 21 (p.c.map TxD.av), .sl false 21 (p.l.map TxD.av), .sl false 1 (p.n.map (AV.int .i64)), .int .u64 (lim p.bal 0), .int .u64 (lim p.bal 1), .int .u64 (lim p.bal 2), .int .u64 (lim p.bal 3)]), (4, (placed x y).cells)]⟩) (fun k => k ≤ p.c.length) (fun k => p.c.length - k) 0 ?_ ?_ ?_
            · simp only [ASt.keep, consIf, keepL, keepV, AV.isBot, List.contains_cons, List.contains_nil, Nat.reduceBEq, Bool.or_false, Bool.false_or, Bool.or_true, Bool.true_or, beq_self_eq_true, Bool.false_eq_true, ↓reduceIte, if_false, if_true]
              rfl
            · exact Nat.zero_le _
            · rintro m2 k hk next2
              simp only [go_sem, ↓reduceIte, Nat.reduceLT, Nat.reduceLeDiff, Nat.reduceAdd, Nat.reduceSub, Nat.reduceMul, Nat.reduceEqDiff, Nat.reduceBEq, Nat.reduceMod, Nat.reduceDiv, Int.reduceToNat, reduceCtorEq, Int.reduceLT, Int.reduceLE, Int.reduceGT, Int.reduceGE, Int.reduceAdd, Int.reduceSub, Int.reduceMul, Int.reduceNeg, Int.reduceEq, Int.reduceNe, Int.reduceBNe, Int.reduceBEq, Int.reduceDiv, List.length_map, hlen]
              refine ex_br (fun hd => ?_) (fun hd => ?_)
              · have hd : k < p.c.length := by simpa using hd
                obtain ⟨z, ez⟩ : ∃ z, p.c[k]? = some z := ⟨_, List.getElem?_eq_getElem hd⟩
                have hz := h.c z (List.mem_of_getElem? ez)
                rcases Decidable.em (k = q) with hkq | hkq
                · have ez2 : l2[k]? = some (placed x y) := by rw [el2, hkq, List.getElem?_set_self hml]
                  have bk : ((k : Int) == (q : Int)) = true := by rw [beq_iff_eq]; omega
                  have bk2 : ((k : Int) != (q : Int)) = false := by unfold bne; rw [bk]; rfl
                  simp only [go_sem, ↓reduceIte, Nat.reduceLT, Nat.reduceLeDiff, Nat.reduceAdd, Nat.reduceSub, Nat.reduceMul, Nat.reduceEqDiff, Nat.reduceBEq, Nat.reduceMod, Nat.reduceDiv, Int.reduceToNat, reduceCtorEq, Int.reduceLT, Int.reduceLE, Int.reduceGT, Int.reduceGE, Int.reduceAdd, Int.reduceSub, Int.reduceMul, Int.reduceNeg, Int.reduceEq, Int.reduceNe, Int.reduceBNe, Int.reduceBEq, Int.reduceDiv]
                  refine ex_draw [] [] (.quiet 0 (.quiet 1 (.quiet 2 (.quiet 3 (.quiet 4 (.quiet 5 (.quiet 6 (.quiet 7 (.quiet 8 (.one 9 (.quiet 10 (.quiet 11 (.quiet 12 (.quiet 13 (.quiet 14 (.quiet 15 (.quiet 16 (.quiet 17 (.quiet 18 (.quiet 19 (.quiet 20 (.quiet 21 (.quiet 22 (.quiet 23 (.quiet 24 (.quiet 25 (.one 26 (.quiet 27 (.quiet 28 (.quiet 29 (.fin))))))))))))))))))))))))))))))) (by kernel_rfl) ?_
                  simp only [go_sem, ↓reduceIte, Nat.reduceLT, Nat.reduceLeDiff, Nat.reduceAdd, Nat.reduceSub, Nat.reduceMul, Nat.reduceEqDiff, Nat.reduceBEq, Nat.reduceMod, Nat.reduceDiv, Int.reduceToNat, reduceCtorEq, Int.reduceLT, Int.reduceLE, Int.reduceGT, Int.reduceGE, Int.reduceAdd, Int.reduceSub, Int.reduceMul, Int.reduceNeg, Int.reduceEq, Int.reduceNe, Int.reduceBNe, Int.reduceBEq, Int.reduceDiv, bk, bk2, List.length_map, hlen, List.getElem?_map, ez2, Int.toNat_natCast, TxD.av, TxD.cells, ints, strs]
                  repeat with_reducible refine And.intro (by first | omega | (simp only [List.length_cons, List.length_append, List.length_nil, List.length_map, List.length_take, List.length_drop, List.length_set]; omega)) ?_
                  have hE := c_EqTx (placed x y) (placed x y) hto hto
                  rw [decide_eq_true rfl] at hE
                  refine ex_call (by exact hE) ?_
                  simp only [go_sem, ↓reduceIte, Nat.reduceLT, Nat.reduceLeDiff, Nat.reduceAdd, Nat.reduceSub, Nat.reduceMul, Nat.reduceEqDiff, Nat.reduceBEq, Nat.reduceMod, Nat.reduceDiv, Int.reduceToNat, reduceCtorEq, Int.reduceLT, Int.reduceLE, Int.reduceGT, Int.reduceGE, Int.reduceAdd, Int.reduceSub, Int.reduceMul, Int.reduceNeg, Int.reduceEq, Int.reduceNe, Int.reduceBNe, Int.reduceBEq, Int.reduceDiv, bk2]
                  refine next2 (k + 1) _ (by omega) (by omega) ?_
                  rw [← wi64_nat k (by omega)]
                  simp only [ASt.keep, consIf, keepL, keepV, AV.isBot, List.contains_cons, List.contains_nil, Nat.reduceBEq, Bool.or_false, Bool.false_or, Bool.or_true, Bool.true_or, beq_self_eq_true, Bool.false_eq_true, ↓reduceIte, if_false, if_true]
                  try rfl
                · have ez2 : l2[k]? = some z := by rw [el2, List.getElem?_set_ne (Ne.symm hkq), ez]
                  have bk : ((k : Int) == (q : Int)) = false := beq_eq_false_iff_ne.2 (by omega)
                  have bk2 : ((k : Int) != (q : Int)) = true := by unfold bne; rw [bk]; rfl
                  simp only [go_sem, ↓reduceIte, Nat.reduceLT, Nat.reduceLeDiff, Nat.reduceAdd, Nat.reduceSub, Nat.reduceMul, Nat.reduceEqDiff, Nat.reduceBEq, Nat.reduceMod, Nat.reduceDiv, Int.reduceToNat, reduceCtorEq, Int.reduceLT, Int.reduceLE, Int.reduceGT, Int.reduceGE, Int.reduceAdd, Int.reduceSub, Int.reduceMul, Int.reduceNeg, Int.reduceEq, Int.reduceNe, Int.reduceBNe, Int.reduceBEq, Int.reduceDiv]
                  refine ex_draw [] [] (.quiet 0 (.quiet 1 (.quiet 2 (.quiet 3 (.quiet 4 (.quiet 5 (.quiet 6 (.quiet 7 (.quiet 8 (.one 9 (.quiet 10 (.quiet 11 (.quiet 12 (.quiet 13 (.quiet 14 (.quiet 15 (.quiet 16 (.quiet 17 (.quiet 18 (.quiet 19 (.quiet 20 (.quiet 21 (.quiet 22 (.quiet 23 (.quiet 24 (.quiet 25 (.one 26 (.quiet 27 (.quiet 28 (.quiet 29 (.fin))))))))))))))))))))))))))))))) (by kernel_rfl) ?_
                  simp only [go_sem, ↓reduceIte, Nat.reduceLT, Nat.reduceLeDiff, Nat.reduceAdd, Nat.reduceSub, Nat.reduceMul, Nat.reduceEqDiff, Nat.reduceBEq, Nat.reduceMod, Nat.reduceDiv, Int.reduceToNat, reduceCtorEq, Int.reduceLT, Int.reduceLE, Int.reduceGT, Int.reduceGE, Int.reduceAdd, Int.reduceSub, Int.reduceMul, Int.reduceNeg, Int.reduceEq, Int.reduceNe, Int.reduceBNe, Int.reduceBEq, Int.reduceDiv, bk, bk2, List.length_map, hlen, List.getElem?_map, ez, ez2, Int.toNat_natCast, TxD.av, TxD.cells, ints, strs]
                  repeat with_reducible refine And.intro (by first | omega | (simp only [List.length_cons, List.length_append, List.length_nil, List.length_map, List.length_take, List.length_drop, List.length_set]; omega)) ?_
                  have hE := c_EqTx z z hz hz
                  rw [decide_eq_true rfl] at hE
                  refine ex_call (by exact hE) ?_
                  simp only [go_sem, ↓reduceIte, Nat.reduceLT, Nat.reduceLeDiff, Nat.reduceAdd, Nat.reduceSub, Nat.reduceMul, Nat.reduceEqDiff, Nat.reduceBEq, Nat.reduceMod, Nat.reduceDiv, Int.reduceToNat, reduceCtorEq, Int.reduceLT, Int.reduceLE, Int.reduceGT, Int.reduceGE, Int.reduceAdd, Int.reduceSub, Int.reduceMul, Int.reduceNeg, Int.reduceEq, Int.reduceNe, Int.reduceBNe, Int.reduceBEq, Int.reduceDiv]
                  refine next2 (k + 1) _ (by omega) (by omega) ?_
                  rw [← wi64_nat k (by omega)]
                  simp only [ASt.keep, consIf, keepL, keepV, AV.isBot, List.contains_cons, List.contains_nil, Nat.reduceBEq, Bool.or_false, Bool.false_or, Bool.or_true, Bool.true_or, beq_self_eq_true, Bool.false_eq_true, ↓reduceIte, if_false, if_true]
                  try rfl
              · simp only [go_sem, ↓reduceIte, Nat.reduceLT, Nat.reduceLeDiff, Nat.reduceAdd, Nat.reduceSub, Nat.reduceMul, Nat.reduceEqDiff, Nat.reduceBEq, Nat.reduceMod, Nat.reduceDiv, Int.reduceToNat, reduceCtorEq, Int.reduceLT, Int.reduceLE, Int.reduceGT, Int.reduceGE, Int.reduceAdd, Int.reduceSub, Int.reduceMul, Int.reduceNeg, Int.reduceEq, Int.reduceNe, Int.reduceBNe, Int.reduceBEq, Int.reduceDiv]
                refine next (i + 1) _ (by omega) (by omega) ?_
                rw [← wi64_nat i (by omega)]
                simp only [ASt.keep, consIf, keepL, keepV, AV.isBot, List.contains_cons, List.contains_nil, Nat.reduceBEq, Bool.or_false, Bool.false_or, Bool.or_true, Bool.true_or, beq_self_eq_true, Bool.false_eq_true, ↓reduceIte, if_false, if_true]
      · simp only [go_sem, ↓reduceIte, Nat.reduceLT, Nat.reduceLeDiff, Nat.reduceAdd, Nat.reduceSub, Nat.reduceMul, Nat.reduceEqDiff, Nat.reduceBEq, Nat.reduceMod, Nat.reduceDiv, Int.reduceToNat, reduceCtorEq, Int.reduceLT, Int.reduceLE, Int.reduceGT, Int.reduceGE, Int.reduceAdd, Int.reduceSub, Int.reduceMul, Int.reduceNeg, Int.reduceEq, Int.reduceNe, Int.reduceBNe, Int.reduceBEq, Int.reduceDiv]
        refine ex_call (by exact c_law14_wakes) ?_
        simp only [go_sem, ↓reduceIte, Nat.reduceLT, Nat.reduceLeDiff, Nat.reduceAdd, Nat.reduceSub, Nat.reduceMul, Nat.reduceEqDiff, Nat.reduceBEq, Nat.reduceMod, Nat.reduceDiv, Int.reduceToNat, reduceCtorEq, Int.reduceLT, Int.reduceLE, Int.reduceGT, Int.reduceGE, Int.reduceAdd, Int.reduceSub, Int.reduceMul, Int.reduceNeg, Int.reduceEq, Int.reduceNe, Int.reduceBNe, Int.reduceBEq, Int.reduceDiv]
        refine finOne ?_ (fun _ e => by cases e)
        show resOf _ _ [.tmp 2] = _
        simp only [go_sem, ↓reduceIte, Nat.reduceLT, Nat.reduceLeDiff, Nat.reduceAdd, Nat.reduceSub, Nat.reduceMul, Nat.reduceEqDiff, Nat.reduceBEq, Nat.reduceMod, Nat.reduceDiv, Int.reduceToNat, reduceCtorEq, Int.reduceLT, Int.reduceLE, Int.reduceGT, Int.reduceGE, Int.reduceAdd, Int.reduceSub, Int.reduceMul, Int.reduceNeg, Int.reduceEq, Int.reduceNe, Int.reduceBNe, Int.reduceBEq, Int.reduceDiv]
theorem law_ChainReplaces (x : AV) (h : Ty ti 28 x) : Contract Try.prog 4 [x] (.bool true) := by
  obtain ⟨p, rfl, hp⟩ := ty_script h
  exact c_ChainReplaces p hp
end Go.Proofs.Ytfdophapfbllcaa.VA
