/- Parts of chains. One more transaction at its place. The laws on chains: what they are asked, and their small functions. Copies, and one more transaction at its place: of new memory alone. Chains by the page: one more. Functions that hand values to a loop: laws for their walks. Functions that write over the rows of what they are given: what is kept. tarnlaw0.Tx writes over a transaction's rows, and over nothing else. tarnlaw0.Txs, Limbo: they write over rows of transactions, and over nothing else. Laws that write over what they were told: helps. ChainAdds: the law's function answers true. Chains cut: the parts are of new memory alone. What the law ChainAsks asks: the nonce behind any chain; how many are covered, by the page. ChainCuts: the law answers true, whatever it is asked. -/
import Derived.Test.YtpepfhbfooeoeaaT1
import Derived.Test.YtpepfhbfooeoeaaT2
import Derived.Test.YtpepfhbfooeoeaaT3
import Derived.Test.YtpepfhbfooeoeaaT4
import Derived.Test.YtpepfhbfooeoeaaT5
import Derived.TacticsIn
import Derived.Deep.LoopGhost
import Derived.WalkKit
section
/- Parts of chains. -/
namespace Go.Proofs.Ytpepfhbfooeoeaa.VA
set_option maxRecDepth 10000
set_option linter.unusedSimpArgs false
set_option linter.unusedVariables false
set_option maxHeartbeats 8000000

def belowN : List TxD → Int → Nat
  | [], _ => 0
  | t :: ts, n => if t.nonce < n then belowN ts n + 1 else 0
theorem belowN_drop {l : List TxD} {i : Nat} {t : TxD} {n : Int} (e : l[i]? = some t) (h : t.nonce < n) : belowN (l.drop i) n = belowN (l.drop (i + 1)) n + 1 := by
  obtain ⟨hi, rfl⟩ := List.getElem?_eq_some_iff.1 e
  rw [← List.getElem_cons_drop hi]
  simp only [belowN, if_pos h]
theorem belowN_stop {l : List TxD} {i : Nat} {t : TxD} {n : Int} (e : l[i]? = some t) (h : ¬ t.nonce < n) : belowN (l.drop i) n = 0 := by
  obtain ⟨hi, rfl⟩ := List.getElem?_eq_some_iff.1 e
  rw [← List.getElem_cons_drop hi]
  simp only [belowN, if_neg h]
theorem belowN_le (l : List TxD) (n : Int) : belowN l n ≤ l.length := by
  induction l with
  | nil => exact Nat.le_refl _
  | cons t ts ih =>
    simp only [belowN, List.length_cons]
    split <;> omega
theorem c_below (l : List TxD) (n : Int) (hl : l.length * 200 ≤ reachBytes) : Contract Try.prog 91 [txs l, .int .i64 n] (.int .i64 (belowN l n : Nat)) := by
  unfold reachBytes at hl
  refine contract_of (C := cf 22 [0, 1, 4, 5, 18] (fun _ => [])) (cf_ok _ _ _) (fn := Try.f91) Try.func91 (by kernel_rfl) rfl (by kernel_rfl) (by simp [cf]) (plain2 (txs_plain l) (.int _ _)) (by decide) (noCell (by kernel_rfl)) ?_
  simp only [go_sem, ↓reduceIte, Nat.reduceLT, Nat.reduceLeDiff, Nat.reduceAdd, Nat.reduceSub, Nat.reduceMul, Nat.reduceEqDiff, Nat.reduceBEq, Nat.reduceMod, Nat.reduceDiv, Int.reduceToNat, reduceCtorEq, Int.reduceLT, Int.reduceLE, Int.reduceGT, Int.reduceGE, Int.reduceAdd, Int.reduceSub, Int.reduceMul, Int.reduceNeg, Int.reduceEq, Int.reduceNe, Int.reduceBNe, Int.reduceBEq, Int.reduceDiv, txs, List.length_map]
  refine ex_iter [0, 1, 5] (fun i : Nat => ⟨[(0, .sl false 21 (l.map TxD.av)), (1, .int .i64 n), (5, .int .i64 i)], [], []⟩) (fun i => i ≤ l.length ∧ i + belowN (l.drop i) n = belowN l n) (fun i => l.length - i) 0 ?_ ?_ ?_
  · simp only [ASt.keep, consIf, keepL, keepV, AV.isBot, List.contains_cons, List.contains_nil, Nat.reduceBEq, Bool.or_false, Bool.false_or, Bool.or_true, Bool.true_or, beq_self_eq_true, Bool.false_eq_true, ↓reduceIte, if_false, if_true]
    rfl
  · exact ⟨Nat.zero_le _, by simp⟩
  · rintro m i ⟨hi, hb⟩ next
    simp only [go_sem, ↓reduceIte, Nat.reduceLT, Nat.reduceLeDiff, Nat.reduceAdd, Nat.reduceSub, Nat.reduceMul, Nat.reduceEqDiff, Nat.reduceBEq, Nat.reduceMod, Nat.reduceDiv, Int.reduceToNat, reduceCtorEq, Int.reduceLT, Int.reduceLE, Int.reduceGT, Int.reduceGE, Int.reduceAdd, Int.reduceSub, Int.reduceMul, Int.reduceNeg, Int.reduceEq, Int.reduceNe, Int.reduceBNe, Int.reduceBEq, Int.reduceDiv, List.length_map]
    cases h : decide ((i : Int) < l.length)
    · have hge : i = l.length := by simp at h; omega
      have e : belowN l n = i := by rw [← hb, hge, List.drop_length]; rfl
      rw [e]
      simp only [go_sem, ↓reduceIte, Nat.reduceLT, Nat.reduceLeDiff, Nat.reduceAdd, Nat.reduceSub, Nat.reduceMul, Nat.reduceEqDiff, Nat.reduceBEq, Nat.reduceMod, Nat.reduceDiv, Int.reduceToNat, reduceCtorEq, Int.reduceLT, Int.reduceLE, Int.reduceGT, Int.reduceGE, Int.reduceAdd, Int.reduceSub, Int.reduceMul, Int.reduceNeg, Int.reduceEq, Int.reduceNe, Int.reduceBNe, Int.reduceBEq, Int.reduceDiv]
      refine finOne ?_ (fun _ e => by cases e)
      show resOf _ _ [.tmp 4] = _
      simp only [go_sem, ↓reduceIte, Nat.reduceLT, Nat.reduceLeDiff, Nat.reduceAdd, Nat.reduceSub, Nat.reduceMul, Nat.reduceEqDiff, Nat.reduceBEq, Nat.reduceMod, Nat.reduceDiv, Int.reduceToNat, reduceCtorEq, Int.reduceLT, Int.reduceLE, Int.reduceGT, Int.reduceGE, Int.reduceAdd, Int.reduceSub, Int.reduceMul, Int.reduceNeg, Int.reduceEq, Int.reduceNe, Int.reduceBNe, Int.reduceBEq, Int.reduceDiv]
    · have hlt : i < l.length := by simpa using h
      obtain ⟨x, ex⟩ : ∃ x, l[i]? = some x := ⟨_, List.getElem?_eq_getElem hlt⟩
      simp only [go_sem, ↓reduceIte, Nat.reduceLT, Nat.reduceLeDiff, Nat.reduceAdd, Nat.reduceSub, Nat.reduceMul, Nat.reduceEqDiff, Nat.reduceBEq, Nat.reduceMod, Nat.reduceDiv, Int.reduceToNat, reduceCtorEq, Int.reduceLT, Int.reduceLE, Int.reduceGT, Int.reduceGE, Int.reduceAdd, Int.reduceSub, Int.reduceMul, Int.reduceNeg, Int.reduceEq, Int.reduceNe, Int.reduceBNe, Int.reduceBEq, Int.reduceDiv, List.length_map, List.getElem?_map, ex, Int.toNat_natCast, TxD.av, TxD.cells]
      repeat with_reducible refine And.intro (by first | omega | (simp only [List.length_cons, List.length_append, List.length_nil, List.length_map, List.length_take, List.length_drop, List.length_set]; omega)) ?_
      refine ex_br (fun hc => ?_) (fun hc => ?_)
      · have hc := of_decide_eq_true hc
        simp only [go_sem, ↓reduceIte, Nat.reduceLT, Nat.reduceLeDiff, Nat.reduceAdd, Nat.reduceSub, Nat.reduceMul, Nat.reduceEqDiff, Nat.reduceBEq, Nat.reduceMod, Nat.reduceDiv, Int.reduceToNat, reduceCtorEq, Int.reduceLT, Int.reduceLE, Int.reduceGT, Int.reduceGE, Int.reduceAdd, Int.reduceSub, Int.reduceMul, Int.reduceNeg, Int.reduceEq, Int.reduceNe, Int.reduceBNe, Int.reduceBEq, Int.reduceDiv]
        refine next (i + 1) _ ⟨by omega, by rw [belowN_drop ex hc] at hb; omega⟩ (by omega) ?_
        rw [← wi64_nat i (by omega)]
        simp only [ASt.keep, consIf, keepL, keepV, AV.isBot, List.contains_cons, List.contains_nil, Nat.reduceBEq, Bool.or_false, Bool.false_or, Bool.or_true, Bool.true_or, beq_self_eq_true, Bool.false_eq_true, ↓reduceIte, if_false, if_true]
      · have hc := of_decide_eq_false hc
        have e : belowN l n = i := by rw [← hb, belowN_stop ex hc]; rfl
        rw [e]
        simp only [go_sem, ↓reduceIte, Nat.reduceLT, Nat.reduceLeDiff, Nat.reduceAdd, Nat.reduceSub, Nat.reduceMul, Nat.reduceEqDiff, Nat.reduceBEq, Nat.reduceMod, Nat.reduceDiv, Int.reduceToNat, reduceCtorEq, Int.reduceLT, Int.reduceLE, Int.reduceGT, Int.reduceGE, Int.reduceAdd, Int.reduceSub, Int.reduceMul, Int.reduceNeg, Int.reduceEq, Int.reduceNe, Int.reduceBNe, Int.reduceBEq, Int.reduceDiv]
        refine finOne ?_ (fun _ e => by cases e)
        show resOf _ _ [.tmp 4] = _
        simp only [go_sem, ↓reduceIte, Nat.reduceLT, Nat.reduceLeDiff, Nat.reduceAdd, Nat.reduceSub, Nat.reduceMul, Nat.reduceEqDiff, Nat.reduceBEq, Nat.reduceMod, Nat.reduceDiv, Int.reduceToNat, reduceCtorEq, Int.reduceLT, Int.reduceLE, Int.reduceGT, Int.reduceGE, Int.reduceAdd, Int.reduceSub, Int.reduceMul, Int.reduceNeg, Int.reduceEq, Int.reduceNe, Int.reduceBNe, Int.reduceBEq, Int.reduceDiv]
theorem len_take {l : List TxD} {k : Nat} (hl : l.length * 200 ≤ reachBytes) : (l.take k).length * 200 ≤ reachBytes := by
  have : (l.take k).length ≤ l.length := by rw [List.length_take]; omega
  omega
theorem len_drop {l : List TxD} {k : Nat} (hl : l.length * 200 ≤ reachBytes) : (l.drop k).length * 200 ≤ reachBytes := by
  have : (l.drop k).length ≤ l.length := by rw [List.length_drop]; omega
  omega
theorem ok_take {l : List TxD} {k : Nat} (hok : ∀ a ∈ l, a.ok) : ∀ a ∈ l.take k, a.ok := fun a h => hok a (List.mem_of_mem_take h)
theorem ok_drop {l : List TxD} {k : Nat} (hok : ∀ a ∈ l, a.ok) : ∀ a ∈ l.drop k, a.ok := fun a h => hok a (List.mem_of_mem_drop h)
theorem c_chain_Cut (l : List TxD) (n : Int) (hl : l.length * 200 ≤ reachBytes) (hok : ∀ a ∈ l, a.ok) :
    Contract Try.prog 42 [txs l, .int .i64 n] (.tup [.own false 21 ((if chainOk l = true then l.take (belowN l n) else []).map TxD.av), .int .i64 (if chainOk l = true then 0 else 1)]) := by
  refine contract_of (C := cf 18 [0, 1, 4, 5, 6, 10] (fun _ => [])) (cf_ok _ _ _) (fn := Try.f42) Try.func42 (by kernel_rfl) rfl (by kernel_rfl) (by simp [cf]) (plain2 (txs_plain l) (.int _ _)) (by decide) (noCell (by kernel_rfl)) ?_
  have hk := belowN_le l n
  simp only [go_sem, ↓reduceIte, Nat.reduceLT, Nat.reduceLeDiff, Nat.reduceAdd, Nat.reduceSub, Nat.reduceMul, Nat.reduceEqDiff, Nat.reduceBEq, Nat.reduceMod, Nat.reduceDiv, Int.reduceToNat, reduceCtorEq, Int.reduceLT, Int.reduceLE, Int.reduceGT, Int.reduceGE, Int.reduceAdd, Int.reduceSub, Int.reduceMul, Int.reduceNeg, Int.reduceEq, Int.reduceNe, Int.reduceBNe, Int.reduceBEq, Int.reduceDiv, txs]
  refine ex_call (by exact c_chain_Check l hl hok) ?_
  cases h : chainOk l
  · simp only [go_sem, ↓reduceIte, Nat.reduceLT, Nat.reduceLeDiff, Nat.reduceAdd, Nat.reduceSub, Nat.reduceMul, Nat.reduceEqDiff, Nat.reduceBEq, Nat.reduceMod, Nat.reduceDiv, Int.reduceToNat, reduceCtorEq, Int.reduceLT, Int.reduceLE, Int.reduceGT, Int.reduceGE, Int.reduceAdd, Int.reduceSub, Int.reduceMul, Int.reduceNeg, Int.reduceEq, Int.reduceNe, Int.reduceBNe, Int.reduceBEq, Int.reduceDiv]
    refine finTup ?_
    show resOf _ _ [.tmp 4, .tmp 5] = _
    simp only [go_sem, ↓reduceIte, Nat.reduceLT, Nat.reduceLeDiff, Nat.reduceAdd, Nat.reduceSub, Nat.reduceMul, Nat.reduceEqDiff, Nat.reduceBEq, Nat.reduceMod, Nat.reduceDiv, Int.reduceToNat, reduceCtorEq, Int.reduceLT, Int.reduceLE, Int.reduceGT, Int.reduceGE, Int.reduceAdd, Int.reduceSub, Int.reduceMul, Int.reduceNeg, Int.reduceEq, Int.reduceNe, Int.reduceBNe, Int.reduceBEq, Int.reduceDiv]
  · simp only [go_sem, ↓reduceIte, Nat.reduceLT, Nat.reduceLeDiff, Nat.reduceAdd, Nat.reduceSub, Nat.reduceMul, Nat.reduceEqDiff, Nat.reduceBEq, Nat.reduceMod, Nat.reduceDiv, Int.reduceToNat, reduceCtorEq, Int.reduceLT, Int.reduceLE, Int.reduceGT, Int.reduceGE, Int.reduceAdd, Int.reduceSub, Int.reduceMul, Int.reduceNeg, Int.reduceEq, Int.reduceNe, Int.reduceBNe, Int.reduceBEq, Int.reduceDiv]
    refine ex_call (by exact c_below l n hl) ?_
    simp only [go_sem, ↓reduceIte, Nat.reduceLT, Nat.reduceLeDiff, Nat.reduceAdd, Nat.reduceSub, Nat.reduceMul, Nat.reduceEqDiff, Nat.reduceBEq, Nat.reduceMod, Nat.reduceDiv, Int.reduceToNat, reduceCtorEq, Int.reduceLT, Int.reduceLE, Int.reduceGT, Int.reduceGE, Int.reduceAdd, Int.reduceSub, Int.reduceMul, Int.reduceNeg, Int.reduceEq, Int.reduceNe, Int.reduceBNe, Int.reduceBEq, Int.reduceDiv, List.length_map, Int.toNat_natCast, Nat.sub_zero, ← List.map_take]
    repeat with_reducible refine And.intro (by first | omega | (simp only [List.length_cons, List.length_append, List.length_nil, List.length_map, List.length_take, List.length_drop, List.length_set]; omega)) ?_
    refine ex_call (by exact c_tx_Copies (l.take (belowN l n)) (len_take hl) (ok_take hok)) ?_
    simp only [go_sem, ↓reduceIte, Nat.reduceLT, Nat.reduceLeDiff, Nat.reduceAdd, Nat.reduceSub, Nat.reduceMul, Nat.reduceEqDiff, Nat.reduceBEq, Nat.reduceMod, Nat.reduceDiv, Int.reduceToNat, reduceCtorEq, Int.reduceLT, Int.reduceLE, Int.reduceGT, Int.reduceGE, Int.reduceAdd, Int.reduceSub, Int.reduceMul, Int.reduceNeg, Int.reduceEq, Int.reduceNe, Int.reduceBNe, Int.reduceBEq, Int.reduceDiv]
    refine finTup ?_
    show resOf _ _ [.tmp 4, .tmp 5] = _
    simp only [go_sem, ↓reduceIte, Nat.reduceLT, Nat.reduceLeDiff, Nat.reduceAdd, Nat.reduceSub, Nat.reduceMul, Nat.reduceEqDiff, Nat.reduceBEq, Nat.reduceMod, Nat.reduceDiv, Int.reduceToNat, reduceCtorEq, Int.reduceLT, Int.reduceLE, Int.reduceGT, Int.reduceGE, Int.reduceAdd, Int.reduceSub, Int.reduceMul, Int.reduceNeg, Int.reduceEq, Int.reduceNe, Int.reduceBNe, Int.reduceBEq, Int.reduceDiv]
theorem c_chain_From (l : List TxD) (n : Int) (hl : l.length * 200 ≤ reachBytes) (hok : ∀ a ∈ l, a.ok) :
    Contract Try.prog 43 [txs l, .int .i64 n] (.tup [.own false 21 ((if chainOk l = true then l.drop (belowN l n) else []).map TxD.av), .int .i64 (if chainOk l = true then 0 else 1)]) := by
  refine contract_of (C := cf 18 [0, 1, 4, 5, 6, 10] (fun _ => [])) (cf_ok _ _ _) (fn := Try.f43) Try.func43 (by kernel_rfl) rfl (by kernel_rfl) (by simp [cf]) (plain2 (txs_plain l) (.int _ _)) (by decide) (noCell (by kernel_rfl)) ?_
  have hk := belowN_le l n
  have ht : (l.drop (belowN l n)).take (l.length - belowN l n) = l.drop (belowN l n) := List.take_of_length_le (by rw [List.length_drop]; omega)
  simp only [go_sem, ↓reduceIte, Nat.reduceLT, Nat.reduceLeDiff, Nat.reduceAdd, Nat.reduceSub, Nat.reduceMul, Nat.reduceEqDiff, Nat.reduceBEq, Nat.reduceMod, Nat.reduceDiv, Int.reduceToNat, reduceCtorEq, Int.reduceLT, Int.reduceLE, Int.reduceGT, Int.reduceGE, Int.reduceAdd, Int.reduceSub, Int.reduceMul, Int.reduceNeg, Int.reduceEq, Int.reduceNe, Int.reduceBNe, Int.reduceBEq, Int.reduceDiv, txs]
  refine ex_call (by exact c_chain_Check l hl hok) ?_
  cases h : chainOk l
  · simp only [go_sem, ↓reduceIte, Nat.reduceLT, Nat.reduceLeDiff, Nat.reduceAdd, Nat.reduceSub, Nat.reduceMul, Nat.reduceEqDiff, Nat.reduceBEq, Nat.reduceMod, Nat.reduceDiv, Int.reduceToNat, reduceCtorEq, Int.reduceLT, Int.reduceLE, Int.reduceGT, Int.reduceGE, Int.reduceAdd, Int.reduceSub, Int.reduceMul, Int.reduceNeg, Int.reduceEq, Int.reduceNe, Int.reduceBNe, Int.reduceBEq, Int.reduceDiv]
    refine finTup ?_
    show resOf _ _ [.tmp 4, .tmp 5] = _
    simp only [go_sem, ↓reduceIte, Nat.reduceLT, Nat.reduceLeDiff, Nat.reduceAdd, Nat.reduceSub, Nat.reduceMul, Nat.reduceEqDiff, Nat.reduceBEq, Nat.reduceMod, Nat.reduceDiv, Int.reduceToNat, reduceCtorEq, Int.reduceLT, Int.reduceLE, Int.reduceGT, Int.reduceGE, Int.reduceAdd, Int.reduceSub, Int.reduceMul, Int.reduceNeg, Int.reduceEq, Int.reduceNe, Int.reduceBNe, Int.reduceBEq, Int.reduceDiv]
  · simp only [go_sem, ↓reduceIte, Nat.reduceLT, Nat.reduceLeDiff, Nat.reduceAdd, Nat.reduceSub, Nat.reduceMul, Nat.reduceEqDiff, Nat.reduceBEq, Nat.reduceMod, Nat.reduceDiv, Int.reduceToNat, reduceCtorEq, Int.reduceLT, Int.reduceLE, Int.reduceGT, Int.reduceGE, Int.reduceAdd, Int.reduceSub, Int.reduceMul, Int.reduceNeg, Int.reduceEq, Int.reduceNe, Int.reduceBNe, Int.reduceBEq, Int.reduceDiv]
    refine ex_call (by exact c_below l n hl) ?_
    simp only [go_sem, ↓reduceIte, Nat.reduceLT, Nat.reduceLeDiff, Nat.reduceAdd, Nat.reduceSub, Nat.reduceMul, Nat.reduceEqDiff, Nat.reduceBEq, Nat.reduceMod, Nat.reduceDiv, Int.reduceToNat, reduceCtorEq, Int.reduceLT, Int.reduceLE, Int.reduceGT, Int.reduceGE, Int.reduceAdd, Int.reduceSub, Int.reduceMul, Int.reduceNeg, Int.reduceEq, Int.reduceNe, Int.reduceBNe, Int.reduceBEq, Int.reduceDiv, List.length_map, Int.toNat_natCast, Nat.sub_zero, ← List.map_take, ← List.map_drop, ht]
    repeat with_reducible refine And.intro (by first | omega | (simp only [List.length_cons, List.length_append, List.length_nil, List.length_map, List.length_take, List.length_drop, List.length_set]; omega)) ?_
    refine ex_call (by exact c_tx_Copies (l.drop (belowN l n)) (len_drop hl) (ok_drop hok)) ?_
    simp only [go_sem, ↓reduceIte, Nat.reduceLT, Nat.reduceLeDiff, Nat.reduceAdd, Nat.reduceSub, Nat.reduceMul, Nat.reduceEqDiff, Nat.reduceBEq, Nat.reduceMod, Nat.reduceDiv, Int.reduceToNat, reduceCtorEq, Int.reduceLT, Int.reduceLE, Int.reduceGT, Int.reduceGE, Int.reduceAdd, Int.reduceSub, Int.reduceMul, Int.reduceNeg, Int.reduceEq, Int.reduceNe, Int.reduceBNe, Int.reduceBEq, Int.reduceDiv]
    refine finTup ?_
    show resOf _ _ [.tmp 4, .tmp 5] = _
    simp only [go_sem, ↓reduceIte, Nat.reduceLT, Nat.reduceLeDiff, Nat.reduceAdd, Nat.reduceSub, Nat.reduceMul, Nat.reduceEqDiff, Nat.reduceBEq, Nat.reduceMod, Nat.reduceDiv, Int.reduceToNat, reduceCtorEq, Int.reduceLT, Int.reduceLE, Int.reduceGT, Int.reduceGE, Int.reduceAdd, Int.reduceSub, Int.reduceMul, Int.reduceNeg, Int.reduceEq, Int.reduceNe, Int.reduceBNe, Int.reduceBEq, Int.reduceDiv]

/-! How many a balance covers. -/
def coverN : List TxD → Nat → Nat → Nat
  | [], _, _ => 0
  | t :: ts, bal, s => if s + costOf t ≤ bal then coverN ts bal (s + costOf t) + 1 else 0
theorem coverN_drop {l : List TxD} {i : Nat} {t : TxD} {bal s : Nat} (e : l[i]? = some t) (h : s + costOf t ≤ bal) : coverN (l.drop i) bal s = coverN (l.drop (i + 1)) bal (s + costOf t) + 1 := by
  obtain ⟨hi, rfl⟩ := List.getElem?_eq_some_iff.1 e
  rw [← List.getElem_cons_drop hi]
  simp only [coverN, if_pos h]
theorem coverN_stop {l : List TxD} {i : Nat} {t : TxD} {bal s : Nat} (e : l[i]? = some t) (h : ¬ s + costOf t ≤ bal) : coverN (l.drop i) bal s = 0 := by
  obtain ⟨hi, rfl⟩ := List.getElem?_eq_some_iff.1 e
  rw [← List.getElem_cons_drop hi]
  simp only [coverN, if_neg h]
theorem c_First (l : List TxD) (bal : Nat) (hbal : bal < U) (hl : l.length * 200 ≤ reachBytes) (hok : ∀ a ∈ l, a.ok) (hc : ChainP l) : Contract Try.prog 90 [txs l, u bal] (.int .i64 (coverN l bal 0 : Nat)) := by
  unfold reachBytes at hl
  refine contract_of (C := cf 42 [0, 3, 4, 5, 6, 7, 8, 9, 10, 11, 12, 13, 23, 37] (fun _ => [])) (cf_ok _ _ _) (fn := Try.f90) Try.func90 (by kernel_rfl) rfl (by kernel_rfl) (by simp [cf]) (plain2 (txs_plain l) (u_plain bal)) (by decide) (noCell (by kernel_rfl)) ?_
  have hz := u_zero
  unfold u at hz
  injection hz with hz
  simp only [go_sem, ↓reduceIte, Nat.reduceLT, Nat.reduceLeDiff, Nat.reduceAdd, Nat.reduceSub, Nat.reduceMul, Nat.reduceEqDiff, Nat.reduceBEq, Nat.reduceMod, Nat.reduceDiv, Int.reduceToNat, reduceCtorEq, Int.reduceLT, Int.reduceLE, Int.reduceGT, Int.reduceGE, Int.reduceAdd, Int.reduceSub, Int.reduceMul, Int.reduceNeg, Int.reduceEq, Int.reduceNe, Int.reduceBNe, Int.reduceBEq, Int.reduceDiv, txs, List.length_map, u]
  refine ex_iter [0, 3, 5, 10, 11, 12] (fun i : Nat => ⟨[(0, .sl false 21 (l.map TxD.av)), (3, .var 3 0), (5, .var 5 0), (10, .sl false 21 (l.map TxD.av)), (11, .int .i64 l.length), (12, .int .i64 i)], [(3, [.int .u64 (lim bal 0), .int .u64 (lim bal 1), .int .u64 (lim bal 2), .int .u64 (lim bal 3)]), (5, [.int .u64 (lim (sumCost (l.take i)) 0), .int .u64 (lim (sumCost (l.take i)) 1), .int .u64 (lim (sumCost (l.take i)) 2), .int .u64 (lim (sumCost (l.take i)) 3)])], []⟩) (fun i => i ≤ l.length ∧ i + coverN (l.drop i) bal (sumCost (l.take i)) = coverN l bal 0) (fun i => l.length - i) 0 ?_ ?_ ?_
  · simp only [ASt.keep, consIf, keepL, keepV, AV.isBot, List.contains_cons, List.contains_nil, Nat.reduceBEq, Bool.or_false, Bool.false_or, Bool.or_true, Bool.true_or, beq_self_eq_true, Bool.false_eq_true, ↓reduceIte, if_false, if_true]
    simp only [List.take_zero, sumCost]
    rw [hz]
    rfl
  · exact ⟨Nat.zero_le _, by simp [sumCost]⟩
  · rintro m i ⟨hi, hb⟩ next
    simp only [go_sem, ↓reduceIte, Nat.reduceLT, Nat.reduceLeDiff, Nat.reduceAdd, Nat.reduceSub, Nat.reduceMul, Nat.reduceEqDiff, Nat.reduceBEq, Nat.reduceMod, Nat.reduceDiv, Int.reduceToNat, reduceCtorEq, Int.reduceLT, Int.reduceLE, Int.reduceGT, Int.reduceGE, Int.reduceAdd, Int.reduceSub, Int.reduceMul, Int.reduceNeg, Int.reduceEq, Int.reduceNe, Int.reduceBNe, Int.reduceBEq, Int.reduceDiv, List.length_map]
    refine ex_br (fun h => ?_) (fun h => ?_)
    · have hlt : i < l.length := by simpa using h
      obtain ⟨x, ex⟩ : ∃ x, l[i]? = some x := ⟨_, List.getElem?_eq_getElem hlt⟩
      have hx := hok x (List.mem_of_getElem? ex)
      have hv := hc.valid i x ex
      have hcost : costOf x < U := (validTx_parts hv).2.2.2.2.2
      have hs : sumCost (l.take i) < U := Nat.lt_of_le_of_lt (sumCost_take l i) hc.sum
      have hs2 : sumCost (l.take i) + costOf x < U := by rw [← sumCost_succ ex]; exact Nat.lt_of_le_of_lt (sumCost_take l (i + 1)) hc.sum
      have c1 := c_tx_Cost x hx
      rw [if_pos hv, if_pos hv] at c1
      have hadd := c_u256_Add (sumCost (l.take i)) (costOf x) hs hcost
      rw [if_pos hs2, if_pos hs2] at hadd
      simp only [go_sem, ↓reduceIte, Nat.reduceLT, Nat.reduceLeDiff, Nat.reduceAdd, Nat.reduceSub, Nat.reduceMul, Nat.reduceEqDiff, Nat.reduceBEq, Nat.reduceMod, Nat.reduceDiv, Int.reduceToNat, reduceCtorEq, Int.reduceLT, Int.reduceLE, Int.reduceGT, Int.reduceGE, Int.reduceAdd, Int.reduceSub, Int.reduceMul, Int.reduceNeg, Int.reduceEq, Int.reduceNe, Int.reduceBNe, Int.reduceBEq, Int.reduceDiv, List.length_map, List.getElem?_map, ex, Int.toNat_natCast, TxD.av, TxD.cells, ints, strs]
      repeat with_reducible refine And.intro (by first | omega | (simp only [List.length_cons, List.length_append, List.length_nil, List.length_map, List.length_take, List.length_drop, List.length_set]; omega)) ?_
      refine ex_call (by exact c1) ?_
      simp only [go_sem, ↓reduceIte, Nat.reduceLT, Nat.reduceLeDiff, Nat.reduceAdd, Nat.reduceSub, Nat.reduceMul, Nat.reduceEqDiff, Nat.reduceBEq, Nat.reduceMod, Nat.reduceDiv, Int.reduceToNat, reduceCtorEq, Int.reduceLT, Int.reduceLE, Int.reduceGT, Int.reduceGE, Int.reduceAdd, Int.reduceSub, Int.reduceMul, Int.reduceNeg, Int.reduceEq, Int.reduceNe, Int.reduceBNe, Int.reduceBEq, Int.reduceDiv, u]
      refine ex_call (by exact hadd) ?_
      simp only [go_sem, ↓reduceIte, Nat.reduceLT, Nat.reduceLeDiff, Nat.reduceAdd, Nat.reduceSub, Nat.reduceMul, Nat.reduceEqDiff, Nat.reduceBEq, Nat.reduceMod, Nat.reduceDiv, Int.reduceToNat, reduceCtorEq, Int.reduceLT, Int.reduceLE, Int.reduceGT, Int.reduceGE, Int.reduceAdd, Int.reduceSub, Int.reduceMul, Int.reduceNeg, Int.reduceEq, Int.reduceNe, Int.reduceBNe, Int.reduceBEq, Int.reduceDiv, u]
      refine ex_call (by exact c_u256_Cmp (sumCost (l.take i) + costOf x) bal hs2 hbal) ?_
      simp only [go_sem, ↓reduceIte, Nat.reduceLT, Nat.reduceLeDiff, Nat.reduceAdd, Nat.reduceSub, Nat.reduceMul, Nat.reduceEqDiff, Nat.reduceBEq, Nat.reduceMod, Nat.reduceDiv, Int.reduceToNat, reduceCtorEq, Int.reduceLT, Int.reduceLE, Int.reduceGT, Int.reduceGE, Int.reduceAdd, Int.reduceSub, Int.reduceMul, Int.reduceNeg, Int.reduceEq, Int.reduceNe, Int.reduceBNe, Int.reduceBEq, Int.reduceDiv, cmp_le]
      refine ex_br (fun hc => ?_) (fun hc => ?_)
      · have hc : ¬ sumCost (l.take i) + costOf x ≤ bal := by simpa using hc
        have e : coverN l bal 0 = i := by rw [← hb, coverN_stop ex hc]; rfl
        rw [e]
        simp only [go_sem, ↓reduceIte, Nat.reduceLT, Nat.reduceLeDiff, Nat.reduceAdd, Nat.reduceSub, Nat.reduceMul, Nat.reduceEqDiff, Nat.reduceBEq, Nat.reduceMod, Nat.reduceDiv, Int.reduceToNat, reduceCtorEq, Int.reduceLT, Int.reduceLE, Int.reduceGT, Int.reduceGE, Int.reduceAdd, Int.reduceSub, Int.reduceMul, Int.reduceNeg, Int.reduceEq, Int.reduceNe, Int.reduceBNe, Int.reduceBEq, Int.reduceDiv]
        refine finOne ?_ (fun _ e => by cases e)
        show resOf _ _ [.tmp 4] = _
        simp only [go_sem, ↓reduceIte, Nat.reduceLT, Nat.reduceLeDiff, Nat.reduceAdd, Nat.reduceSub, Nat.reduceMul, Nat.reduceEqDiff, Nat.reduceBEq, Nat.reduceMod, Nat.reduceDiv, Int.reduceToNat, reduceCtorEq, Int.reduceLT, Int.reduceLE, Int.reduceGT, Int.reduceGE, Int.reduceAdd, Int.reduceSub, Int.reduceMul, Int.reduceNeg, Int.reduceEq, Int.reduceNe, Int.reduceBNe, Int.reduceBEq, Int.reduceDiv]
      · have hc : sumCost (l.take i) + costOf x ≤ bal := by simpa using hc
        simp only [go_sem, ↓reduceIte, Nat.reduceLT, Nat.reduceLeDiff, Nat.reduceAdd, Nat.reduceSub, Nat.reduceMul, Nat.reduceEqDiff, Nat.reduceBEq, Nat.reduceMod, Nat.reduceDiv, Int.reduceToNat, reduceCtorEq, Int.reduceLT, Int.reduceLE, Int.reduceGT, Int.reduceGE, Int.reduceAdd, Int.reduceSub, Int.reduceMul, Int.reduceNeg, Int.reduceEq, Int.reduceNe, Int.reduceBNe, Int.reduceBEq, Int.reduceDiv]
        refine next (i + 1) _ ⟨by omega, by rw [coverN_drop ex hc] at hb; rw [sumCost_succ ex]; omega⟩ (by omega) ?_
        rw [← wi64_nat i (by omega), sumCost_succ ex]
        simp only [ASt.keep, consIf, keepL, keepV, AV.isBot, List.contains_cons, List.contains_nil, Nat.reduceBEq, Bool.or_false, Bool.false_or, Bool.or_true, Bool.true_or, beq_self_eq_true, Bool.false_eq_true, ↓reduceIte, if_false, if_true]
    · have hge : i = l.length := by simp at h; omega
      have e : coverN l bal 0 = l.length := by rw [← hb, hge, List.drop_length]; rfl
      rw [e]
      simp only [go_sem, ↓reduceIte, Nat.reduceLT, Nat.reduceLeDiff, Nat.reduceAdd, Nat.reduceSub, Nat.reduceMul, Nat.reduceEqDiff, Nat.reduceBEq, Nat.reduceMod, Nat.reduceDiv, Int.reduceToNat, reduceCtorEq, Int.reduceLT, Int.reduceLE, Int.reduceGT, Int.reduceGE, Int.reduceAdd, Int.reduceSub, Int.reduceMul, Int.reduceNeg, Int.reduceEq, Int.reduceNe, Int.reduceBNe, Int.reduceBEq, Int.reduceDiv, List.length_map]
      refine finOne ?_ (fun _ e => by cases e)
      show resOf _ _ [.tmp 4] = _
      simp only [go_sem, ↓reduceIte, Nat.reduceLT, Nat.reduceLeDiff, Nat.reduceAdd, Nat.reduceSub, Nat.reduceMul, Nat.reduceEqDiff, Nat.reduceBEq, Nat.reduceMod, Nat.reduceDiv, Int.reduceToNat, reduceCtorEq, Int.reduceLT, Int.reduceLE, Int.reduceGT, Int.reduceGE, Int.reduceAdd, Int.reduceSub, Int.reduceMul, Int.reduceNeg, Int.reduceEq, Int.reduceNe, Int.reduceBNe, Int.reduceBEq, Int.reduceDiv]
theorem c_Covered (l : List TxD) (bal : Nat) (hbal : bal < U) (hl : l.length * 200 ≤ reachBytes) (hok : ∀ a ∈ l, a.ok) :
    Contract Try.prog 41 [txs l, u bal] (.tup [.int .i64 ((if chainOk l = true then coverN l bal 0 else 0 : Nat) : Int), .int .i64 (if chainOk l = true then 0 else 1)]) := by
  refine contract_of (C := cf 15 [0, 3, 4, 5, 6, 10] (fun _ => [])) (cf_ok _ _ _) (fn := Try.f41) Try.func41 (by kernel_rfl) rfl (by kernel_rfl) (by simp [cf]) (plain2 (txs_plain l) (u_plain bal)) (by decide) (noCell (by kernel_rfl)) ?_
  simp only [go_sem, ↓reduceIte, Nat.reduceLT, Nat.reduceLeDiff, Nat.reduceAdd, Nat.reduceSub, Nat.reduceMul, Nat.reduceEqDiff, Nat.reduceBEq, Nat.reduceMod, Nat.reduceDiv, Int.reduceToNat, reduceCtorEq, Int.reduceLT, Int.reduceLE, Int.reduceGT, Int.reduceGE, Int.reduceAdd, Int.reduceSub, Int.reduceMul, Int.reduceNeg, Int.reduceEq, Int.reduceNe, Int.reduceBNe, Int.reduceBEq, Int.reduceDiv, txs, u]
  refine ex_call (by exact c_chain_Check l hl hok) ?_
  cases h : chainOk l
  · simp only [go_sem, ↓reduceIte, Nat.reduceLT, Nat.reduceLeDiff, Nat.reduceAdd, Nat.reduceSub, Nat.reduceMul, Nat.reduceEqDiff, Nat.reduceBEq, Nat.reduceMod, Nat.reduceDiv, Int.reduceToNat, reduceCtorEq, Int.reduceLT, Int.reduceLE, Int.reduceGT, Int.reduceGE, Int.reduceAdd, Int.reduceSub, Int.reduceMul, Int.reduceNeg, Int.reduceEq, Int.reduceNe, Int.reduceBNe, Int.reduceBEq, Int.reduceDiv]
    refine finTup ?_
    show resOf _ _ [.tmp 4, .tmp 5] = _
    simp only [go_sem, ↓reduceIte, Nat.reduceLT, Nat.reduceLeDiff, Nat.reduceAdd, Nat.reduceSub, Nat.reduceMul, Nat.reduceEqDiff, Nat.reduceBEq, Nat.reduceMod, Nat.reduceDiv, Int.reduceToNat, reduceCtorEq, Int.reduceLT, Int.reduceLE, Int.reduceGT, Int.reduceGE, Int.reduceAdd, Int.reduceSub, Int.reduceMul, Int.reduceNeg, Int.reduceEq, Int.reduceNe, Int.reduceBNe, Int.reduceBEq, Int.reduceDiv, Int.cast_ofNat_Int]
  · simp only [go_sem, ↓reduceIte, Nat.reduceLT, Nat.reduceLeDiff, Nat.reduceAdd, Nat.reduceSub, Nat.reduceMul, Nat.reduceEqDiff, Nat.reduceBEq, Nat.reduceMod, Nat.reduceDiv, Int.reduceToNat, reduceCtorEq, Int.reduceLT, Int.reduceLE, Int.reduceGT, Int.reduceGE, Int.reduceAdd, Int.reduceSub, Int.reduceMul, Int.reduceNeg, Int.reduceEq, Int.reduceNe, Int.reduceBNe, Int.reduceBEq, Int.reduceDiv]
    refine ex_call (by exact c_First l bal hbal hl hok (chainOk_iff.1 h)) ?_
    simp only [go_sem, ↓reduceIte, Nat.reduceLT, Nat.reduceLeDiff, Nat.reduceAdd, Nat.reduceSub, Nat.reduceMul, Nat.reduceEqDiff, Nat.reduceBEq, Nat.reduceMod, Nat.reduceDiv, Int.reduceToNat, reduceCtorEq, Int.reduceLT, Int.reduceLE, Int.reduceGT, Int.reduceGE, Int.reduceAdd, Int.reduceSub, Int.reduceMul, Int.reduceNeg, Int.reduceEq, Int.reduceNe, Int.reduceBNe, Int.reduceBEq, Int.reduceDiv]
    refine finTup ?_
    show resOf _ _ [.tmp 4, .tmp 5] = _
    simp only [go_sem, ↓reduceIte, Nat.reduceLT, Nat.reduceLeDiff, Nat.reduceAdd, Nat.reduceSub, Nat.reduceMul, Nat.reduceEqDiff, Nat.reduceBEq, Nat.reduceMod, Nat.reduceDiv, Int.reduceToNat, reduceCtorEq, Int.reduceLT, Int.reduceLE, Int.reduceGT, Int.reduceGE, Int.reduceAdd, Int.reduceSub, Int.reduceMul, Int.reduceNeg, Int.reduceEq, Int.reduceNe, Int.reduceBNe, Int.reduceBEq, Int.reduceDiv]

/-! The nonce behind a chain. -/
def nextOf (l : List TxD) (n : Int) : Int := match l.getLast? with
  | some t => t.nonce + 1
  | none => n
theorem c_chain_Next (l : List TxD) (n : Int) (hl : l.length * 200 ≤ reachBytes) (hok : ∀ a ∈ l, a.ok) (h1 : chainOk l = true) (h2 : 0 ≤ n ∧ n ≤ 1099511627776) :
    Contract Try.prog 45 [txs l, .int .i64 n] (.tup [.int .i64 (nextOf l n), .int .i64 0]) := by
  have hl0 := hl
  unfold reachBytes at hl
  refine contract_of (C := cf 30 [0, 1, 4, 5, 6, 17, 21] (fun _ => [])) (cf_ok _ _ _) (fn := Try.f45) Try.func45 (by kernel_rfl) rfl (by kernel_rfl) (by simp [cf]) (plain2 (txs_plain l) (.int _ _)) (by decide) (noCell (by kernel_rfl)) ?_
  have b1 : decide (n < 0) = false := decide_eq_false (by omega)
  have b2 : decide (n > 1099511627776) = false := decide_eq_false (by omega)
  simp only [go_sem, ↓reduceIte, Nat.reduceLT, Nat.reduceLeDiff, Nat.reduceAdd, Nat.reduceSub, Nat.reduceMul, Nat.reduceEqDiff, Nat.reduceBEq, Nat.reduceMod, Nat.reduceDiv, Int.reduceToNat, reduceCtorEq, Int.reduceLT, Int.reduceLE, Int.reduceGT, Int.reduceGE, Int.reduceAdd, Int.reduceSub, Int.reduceMul, Int.reduceNeg, Int.reduceEq, Int.reduceNe, Int.reduceBNe, Int.reduceBEq, Int.reduceDiv, txs]
  refine ex_call (by exact c_chain_Check l hl0 hok) ?_
  simp only [go_sem, ↓reduceIte, Nat.reduceLT, Nat.reduceLeDiff, Nat.reduceAdd, Nat.reduceSub, Nat.reduceMul, Nat.reduceEqDiff, Nat.reduceBEq, Nat.reduceMod, Nat.reduceDiv, Int.reduceToNat, reduceCtorEq, Int.reduceLT, Int.reduceLE, Int.reduceGT, Int.reduceGE, Int.reduceAdd, Int.reduceSub, Int.reduceMul, Int.reduceNeg, Int.reduceEq, Int.reduceNe, Int.reduceBNe, Int.reduceBEq, Int.reduceDiv, h1, b1, b2, List.length_map]
  refine ex_br (fun h => ?_) (fun h => ?_)
  · have hpos : 0 < l.length := by simpa using h
    obtain ⟨p, ep⟩ : ∃ p, l[l.length - 1]? = some p := ⟨_, List.getElem?_eq_getElem (by omega)⟩
    have hp := (validTx_parts ((chainOk_iff.1 h1).valid _ p ep)).2.1
    have w1 : IntKind.i64.wrap ((l.length : Int) - 1) = ((l.length - 1 : Nat) : Int) := by rw [wi64 (by omega) (by omega)]; omega
    have w2 : IntKind.i64.wrap (p.nonce + 1) = p.nonce + 1 := wi64 (by omega) (by omega)
    have e : nextOf l n = p.nonce + 1 := by unfold nextOf; rw [List.getLast?_eq_getElem?, ep]
    simp only [go_sem, ↓reduceIte, Nat.reduceLT, Nat.reduceLeDiff, Nat.reduceAdd, Nat.reduceSub, Nat.reduceMul, Nat.reduceEqDiff, Nat.reduceBEq, Nat.reduceMod, Nat.reduceDiv, Int.reduceToNat, reduceCtorEq, Int.reduceLT, Int.reduceLE, Int.reduceGT, Int.reduceGE, Int.reduceAdd, Int.reduceSub, Int.reduceMul, Int.reduceNeg, Int.reduceEq, Int.reduceNe, Int.reduceBNe, Int.reduceBEq, Int.reduceDiv, w1, w2, Int.toNat_natCast, List.getElem?_map, List.length_map, ep, TxD.av, TxD.cells, e]
    repeat with_reducible refine And.intro (by first | omega | (simp only [List.length_cons, List.length_append, List.length_nil, List.length_map, List.length_take, List.length_drop, List.length_set]; omega)) ?_
    refine finTup ?_
    show resOf _ _ [.tmp 4, .tmp 5] = _
    simp only [go_sem, ↓reduceIte, Nat.reduceLT, Nat.reduceLeDiff, Nat.reduceAdd, Nat.reduceSub, Nat.reduceMul, Nat.reduceEqDiff, Nat.reduceBEq, Nat.reduceMod, Nat.reduceDiv, Int.reduceToNat, reduceCtorEq, Int.reduceLT, Int.reduceLE, Int.reduceGT, Int.reduceGE, Int.reduceAdd, Int.reduceSub, Int.reduceMul, Int.reduceNeg, Int.reduceEq, Int.reduceNe, Int.reduceBNe, Int.reduceBEq, Int.reduceDiv]
  · have hnil : l = [] := by
      have : l.length = 0 := by simpa using h
      exact List.eq_nil_of_length_eq_zero this
    subst hnil
    simp only [go_sem, ↓reduceIte, Nat.reduceLT, Nat.reduceLeDiff, Nat.reduceAdd, Nat.reduceSub, Nat.reduceMul, Nat.reduceEqDiff, Nat.reduceBEq, Nat.reduceMod, Nat.reduceDiv, Int.reduceToNat, reduceCtorEq, Int.reduceLT, Int.reduceLE, Int.reduceGT, Int.reduceGE, Int.reduceAdd, Int.reduceSub, Int.reduceMul, Int.reduceNeg, Int.reduceEq, Int.reduceNe, Int.reduceBNe, Int.reduceBEq, Int.reduceDiv, nextOf, List.getLast?_nil]
    refine finTup ?_
    show resOf _ _ [.tmp 4, .tmp 5] = _
    simp only [go_sem, ↓reduceIte, Nat.reduceLT, Nat.reduceLeDiff, Nat.reduceAdd, Nat.reduceSub, Nat.reduceMul, Nat.reduceEqDiff, Nat.reduceBEq, Nat.reduceMod, Nat.reduceDiv, Int.reduceToNat, reduceCtorEq, Int.reduceLT, Int.reduceLE, Int.reduceGT, Int.reduceGE, Int.reduceAdd, Int.reduceSub, Int.reduceMul, Int.reduceNeg, Int.reduceEq, Int.reduceNe, Int.reduceBNe, Int.reduceBEq, Int.reduceDiv]
end Go.Proofs.Ytpepfhbfooeoeaa.VA
end
section
/- One more transaction at its place. -/
namespace Go.Proofs.Ytpepfhbfooeoeaa.VA
set_option maxRecDepth 10000
set_option linter.unusedSimpArgs false
set_option linter.unusedVariables false
set_option maxHeartbeats 16000000

def addOut (l : List TxD) (t : TxD) : List TxD := match l[0]? with
  | none => [t]
  | some a => if t.nonce < a.nonce + l.length then l.set (t.nonce - a.nonce).toNat t else l ++ [t]
noncomputable def addErr (l : List TxD) (t : TxD) : Int := match l[0]? with
  | none => if validTx t = true then (if chainOk [t] = true then 0 else 8) else 1
  | some a => if chainOk l = true ∧ validTx t = true ∧ t.frm = a.frm then
      (if t.nonce < a.nonce then 9 else if a.nonce + l.length < t.nonce then 10 else if t.nonce = a.nonce + l.length ∧ 6 ≤ l.length then 2 else if chainOk (addOut l t) = true then 0 else 8) else 1
theorem chainOk_nil : chainOk [] = true := chainOk_yes ⟨by decide, fun i t e => by simp at e, fun i a t e => by simp at e, by decide⟩
theorem finAdd {C : Cfg} {σ : ASt} {rs : List ResultVar} {sh : Bool} {es : List AV} {e : Int} (h : resOf C σ rs = some (.tup [.own sh 21 es, .int .i64 e])) : BodyPost C rs (.tup [.sl false 21 es, .int .i64 e]) .ret σ :=
  finTupD h (.cons (.froz (dsl _ _ _)) (.cons (.dull (.refl _)) .nil))
theorem c_chain_Add_nil (t : TxD) (h : t.ok) : Contract Try.prog 32 [txs [], t.av] (.tup [.sl false 21 ((if addErr [] t = 0 then addOut [] t else []).map TxD.av), .int .i64 (addErr [] t)]) := by
  obtain ⟨res, hres⟩ : ∃ res, res = (.tup [.sl false 21 ((if addErr [] t = 0 then addOut [] t else []).map TxD.av), .int .i64 (addErr [] t)] : AV) := ⟨_, rfl⟩
  rw [← hres]
  have e0 : addErr [] t = if validTx t = true then (if chainOk [t] = true then 0 else 8) else 1 := rfl
  have e1 : addOut [] t = [t] := rfl
  have err : ∀ e : Int, addErr [] t = e → e ≠ 0 → res = .tup [.sl false 21 [], .int .i64 e] := fun e he hne => by
    rw [hres, he, if_neg hne]; rfl
  have good : addErr [] t = 0 → res = .tup [.sl false 21 ((addOut [] t).map TxD.av), .int .i64 0] := fun he => by
    rw [hres, he, if_pos rfl]
  clear hres
  have hch := c_chain_Check [] (by decide) (by simp)
  rw [if_pos chainOk_nil] at hch
  refine contract_of (C := cf 103 [0, 3, 4, 5, 6, 7, 9, 32, 40, 52, 67, 92, 101] (fun _ => [])) (cf_ok _ _ _) (fn := Try.f32) Try.func32 (by kernel_rfl) rfl (by kernel_rfl) (by simp [cf]) (plain2 (txs_plain []) t.plain) (by decide) (noCell (by kernel_rfl)) ?_
  simp only [go_sem, seval, txs, TxD.av, TxD.cells, ints, strs]
  refine ex_draw [] [] (.quiet 0 (.one 1 (.quiet 2 (.quiet 3 (.quiet 4 (.one 5 (.quiet 6 (.quiet 7 (.quiet 8 (.quiet 9 (.quiet 10 (.quiet 11 (.quiet 12 (.quiet 13 (.quiet 14 (.quiet 15 (.quiet 16 (.quiet 17 (.quiet 18 (.quiet 19 (.quiet 20 (.fin)))))))))))))))))))))) (by kernel_rfl) ?_
  simp only [go_sem, seval, Int.cast_ofNat_Int]
  refine ex_call (by exact hch) ?_
  simp only [go_sem, seval, Int.cast_ofNat_Int]
  refine ex_call (by exact c_tx_Check t h) ?_
  cases h2 : validTx t
  case' false =>
    rw [err 1 (by rw [e0, h2]; rfl) (by decide)]
    simp only [go_sem, seval, Int.cast_ofNat_Int]
    refine finAdd (sh := false) ?_
    show resOf _ _ [.tmp 4, .tmp 5] = _
    simp only [go_sem, seval, Int.cast_ofNat_Int]
  simp only [go_sem, seval, Int.cast_ofNat_Int]
  refine ex_call (by exact c_tx_Copies [] (by decide) (by simp)) ?_
  simp only [go_sem, seval, Int.cast_ofNat_Int]
  refine ex_draw [] [] (.quiet 0 (.quiet 1 (.quiet 2 (.quiet 3 (.quiet 4 (.quiet 5 (.quiet 6 (.quiet 7 (.quiet 8 (.quiet 9 (.quiet 10 (.quiet 11 (.fin))))))))))))) (by kernel_rfl) ?_
  simp only [go_sem, seval, Int.cast_ofNat_Int]
  refine ex_draw [] [] (.quiet 0 (.quiet 1 (.quiet 2 (.quiet 3 (.quiet 4 (.quiet 5 (.quiet 6 (.quiet 7 (.quiet 8 (.quiet 9 (.quiet 10 (.quiet 11 (.quiet 12 (.quiet 13 (.quiet 14 (.fin)))))))))))))))) (by kernel_rfl) ?_
  simp only [go_sem, seval, Int.cast_ofNat_Int]
  refine ex_draw [] [] (.quiet 0 (.quiet 1 (.quiet 2 (.quiet 3 (.quiet 4 (.quiet 5 (.quiet 6 (.quiet 7 (.quiet 8 (.quiet 9 (.quiet 10 (.quiet 11 (.quiet 12 (.quiet 13 (.fin))))))))))))))) (by kernel_rfl) ?_
  simp only [go_sem, seval, Int.cast_ofNat_Int]
  refine ex_call (by exact c_tx_Copy t h) ?_
  simp only [go_sem, seval, TxD.av, cells_len]
  repeat with_reducible refine And.intro (by first | omega | (simp only [List.length_cons, List.length_append, List.length_nil, List.length_map, List.length_take, List.length_drop, List.length_set]; omega)) ?_
  have hsp := c_chain_spent [t] (by simp; unfold reachBytes; decide) (by simpa using h)
  refine ex_call_dull (.cons (dsl _ _ _) .nil) (by exact hsp) ?_
  cases h8 : chainOk [t]
  · rw [err 8 (by rw [e0, h2, h8]; rfl) (by decide)]
    simp only [go_sem, seval, u]
    refine finAdd (sh := false) ?_
    show resOf _ _ [.tmp 4, .tmp 5] = _
    simp only [go_sem, seval, Int.cast_ofNat_Int]
  · rw [good (by rw [e0, h2, h8]; rfl), e1]
    simp only [go_sem, seval, u]
    refine finAdd (sh := true) ?_
    show resOf _ _ [.tmp 4, .tmp 5] = _
    simp only [go_sem, seval, TxD.av]
theorem c_chain_Add_cons (l : List TxD) (a t : TxD) (ea : l[0]? = some a) (hl : l.length * 200 ≤ reachBytes) (hok : ∀ a ∈ l, a.ok) (h : t.ok) :
    Contract Try.prog 32 [txs l, t.av] (.tup [.sl false 21 ((if addErr l t = 0 then addOut l t else []).map TxD.av), .int .i64 (addErr l t)]) := by
  have hl0 := hl
  unfold reachBytes at hl
  obtain ⟨res, hres⟩ : ∃ res, res = (.tup [.sl false 21 ((if addErr l t = 0 then addOut l t else []).map TxD.av), .int .i64 (addErr l t)] : AV) := ⟨_, rfl⟩
  rw [← hres]
  have e0 : addErr l t = if chainOk l = true ∧ validTx t = true ∧ t.frm = a.frm then
      (if t.nonce < a.nonce then 9 else if a.nonce + l.length < t.nonce then 10 else if t.nonce = a.nonce + l.length ∧ 6 ≤ l.length then 2 else if chainOk (addOut l t) = true then 0 else 8) else 1 := by unfold addErr; rw [ea]
  have e1 : addOut l t = if t.nonce < a.nonce + l.length then l.set (t.nonce - a.nonce).toNat t else l ++ [t] := by unfold addOut; rw [ea]
  have err : ∀ e : Int, addErr l t = e → e ≠ 0 → res = .tup [.sl false 21 [], .int .i64 e] := fun e he hne => by
    rw [hres, he, if_neg hne]; rfl
  have good : addErr l t = 0 → res = .tup [.sl false 21 ((addOut l t).map TxD.av), .int .i64 0] := fun he => by
    rw [hres, he, if_pos rfl]
  clear hres
  have hpos : 0 < l.length := (List.getElem?_eq_some_iff.1 ea).1
  have b0 : decide ((l.length : Int) > 0) = true := decide_eq_true (by omega)
  refine contract_of (C := cf 103 [0, 3, 4, 5, 6, 7, 9, 32, 40, 52, 67, 92, 101] (fun _ => [])) (cf_ok _ _ _) (fn := Try.f32) Try.func32 (by kernel_rfl) rfl (by kernel_rfl) (by simp [cf]) (plain2 (txs_plain l) t.plain) (by decide) (noCell (by kernel_rfl)) ?_
  simp only [go_sem, seval, txs, TxD.av, TxD.cells, ints, strs, List.length_map]
  refine ex_draw [] [] (.quiet 0 (.one 1 (.quiet 2 (.quiet 3 (.quiet 4 (.one 5 (.quiet 6 (.quiet 7 (.quiet 8 (.quiet 9 (.quiet 10 (.quiet 11 (.quiet 12 (.quiet 13 (.quiet 14 (.quiet 15 (.quiet 16 (.quiet 17 (.quiet 18 (.quiet 19 (.quiet 20 (.fin)))))))))))))))))))))) (by kernel_rfl) ?_
  simp only [go_sem, seval]
  refine ex_call (by exact c_chain_Check l hl0 hok) ?_
  cases h1 : chainOk l
  case' false =>
    rw [err 1 (by rw [e0, h1]; rfl) (by decide)]
    simp only [go_sem, seval]
    refine finAdd (sh := false) ?_
    show resOf _ _ [.tmp 4, .tmp 5] = _
    simp only [go_sem, seval]
  have hc := chainOk_iff.1 h1
  simp only [go_sem, seval]
  refine ex_call (by exact c_tx_Check t h) ?_
  cases h2 : validTx t
  case' false =>
    rw [err 1 (by rw [e0, h2]; rw [if_neg]; rintro ⟨_, k, _⟩; cases k) (by decide)]
    simp only [go_sem, seval]
    refine finAdd (sh := false) ?_
    show resOf _ _ [.tmp 4, .tmp 5] = _
    simp only [go_sem, seval]
  have hv := (validTx_parts h2).2.1
  cases h3 : (t.frm != a.frm)
  case' true =>
    rw [err 1 (by rw [e0]; rw [if_neg]; rintro ⟨_, _, k⟩; rw [k] at h3; simp at h3) (by decide)]
    simp only [go_sem, seval, b0, h3, Int.toNat_zero, List.getElem?_map, List.length_map, ea, TxD.av, TxD.cells]
    repeat with_reducible refine And.intro (by first | omega | (simp only [List.length_cons, List.length_append, List.length_nil, List.length_map, List.length_take, List.length_drop, List.length_set]; omega)) ?_
    try simp only [go_sem, seval]
    refine finAdd (sh := false) ?_
    show resOf _ _ [.tmp 4, .tmp 5] = _
    simp only [go_sem, seval]
  have h3' : t.frm = a.frm := by simpa using h3
  rw [if_pos ⟨h1, h2, h3'⟩] at e0
  simp only [go_sem, seval, b0, h3, Int.toNat_zero, List.getElem?_map, List.length_map, ea, TxD.av, TxD.cells]
  repeat with_reducible refine And.intro (by first | omega | (simp only [List.length_cons, List.length_append, List.length_nil, List.length_map, List.length_take, List.length_drop, List.length_set]; omega)) ?_
  refine ex_call (by exact c_tx_Copies l hl0 hok) ?_
  simp only [go_sem, seval]
  cases h4 : decide (t.nonce < a.nonce)
  case' true =>
    have h4 := of_decide_eq_true h4
    rw [err 9 (by rw [e0, if_pos h4]) (by decide)]
    refine ex_draw [] [] (.quiet 0 (.quiet 1 (.quiet 2 (.quiet 3 (.quiet 4 (.quiet 5 (.quiet 6 (.quiet 7 (.quiet 8 (.quiet 9 (.quiet 10 (.quiet 11 (.fin))))))))))))) (by kernel_rfl) ?_
    simp only [go_sem, seval, b0, decide_eq_true h4, Int.toNat_zero, List.getElem?_map, List.length_map, ea, TxD.av, TxD.cells]
    repeat with_reducible refine And.intro (by first | omega | (simp only [List.length_cons, List.length_append, List.length_nil, List.length_map, List.length_take, List.length_drop, List.length_set]; omega)) ?_
    try simp only [go_sem, seval]
    refine finAdd (sh := false) ?_
    show resOf _ _ [.tmp 4, .tmp 5] = _
    simp only [go_sem, seval]
  have h4' := of_decide_eq_false h4
  rw [if_neg h4'] at e0
  obtain ⟨p, ep⟩ : ∃ p, l[l.length - 1]? = some p := ⟨_, List.getElem?_eq_getElem (by omega)⟩
  have hp := hc.link (l.length - 1) a p ea ep
  have hpv := (validTx_parts (hc.valid _ p ep)).2.1
  have w1 : IntKind.i64.wrap ((l.length : Int) - 1) = ((l.length - 1 : Nat) : Int) := by rw [wi64 (by omega) (by omega)]; omega
  have w2 : IntKind.i64.wrap (p.nonce + 1) = p.nonce + 1 := wi64 (by omega) (by omega)
  refine ex_draw [] [] (.quiet 0 (.quiet 1 (.quiet 2 (.quiet 3 (.quiet 4 (.quiet 5 (.quiet 6 (.quiet 7 (.quiet 8 (.quiet 9 (.quiet 10 (.quiet 11 (.fin))))))))))))) (by kernel_rfl) ?_
  simp only [go_sem, seval, b0, h4, Int.toNat_zero, List.getElem?_map, List.length_map, ea, TxD.av, TxD.cells]
  repeat with_reducible refine And.intro (by first | omega | (simp only [List.length_cons, List.length_append, List.length_nil, List.length_map, List.length_take, List.length_drop, List.length_set]; omega)) ?_
  try simp only [go_sem, seval]
  cases h5 : decide (t.nonce > p.nonce + 1)
  case' true =>
    have h5 := of_decide_eq_true h5
    rw [err 10 (by rw [e0, if_pos (by omega)]) (by decide)]
    refine ex_draw [] [] (.quiet 0 (.quiet 1 (.quiet 2 (.quiet 3 (.quiet 4 (.quiet 5 (.quiet 6 (.quiet 7 (.quiet 8 (.quiet 9 (.quiet 10 (.quiet 11 (.quiet 12 (.quiet 13 (.quiet 14 (.fin)))))))))))))))) (by kernel_rfl) ?_
    simp only [go_sem, seval, b0, decide_eq_true h5, w1, w2, Int.toNat_natCast, List.getElem?_map, List.length_map, ep, TxD.av, TxD.cells]
    repeat with_reducible refine And.intro (by first | omega | (simp only [List.length_cons, List.length_append, List.length_nil, List.length_map, List.length_take, List.length_drop, List.length_set]; omega)) ?_
    try simp only [go_sem, seval]
    refine finAdd (sh := false) ?_
    show resOf _ _ [.tmp 4, .tmp 5] = _
    simp only [go_sem, seval]
  have h5' := of_decide_eq_false h5
  rw [if_neg (show ¬ a.nonce + (l.length : Int) < t.nonce by omega)] at e0
  refine ex_draw [] [] (.quiet 0 (.quiet 1 (.quiet 2 (.quiet 3 (.quiet 4 (.quiet 5 (.quiet 6 (.quiet 7 (.quiet 8 (.quiet 9 (.quiet 10 (.quiet 11 (.quiet 12 (.quiet 13 (.quiet 14 (.fin)))))))))))))))) (by kernel_rfl) ?_
  simp only [go_sem, seval, b0, h5, w1, w2, Int.toNat_natCast, List.getElem?_map, List.length_map, ep, TxD.av, TxD.cells]
  repeat with_reducible refine And.intro (by first | omega | (simp only [List.length_cons, List.length_append, List.length_nil, List.length_map, List.length_take, List.length_drop, List.length_set]; omega)) ?_
  try simp only [go_sem, seval]
  cases h6 : decide (t.nonce ≤ p.nonce)
  · have h6' := of_decide_eq_false h6
    have hn : t.nonce = a.nonce + l.length := by omega
    rw [if_neg (show ¬ t.nonce < a.nonce + (l.length : Int) by omega)] at e1
    refine ex_draw [] [] (.quiet 0 (.quiet 1 (.quiet 2 (.quiet 3 (.quiet 4 (.quiet 5 (.quiet 6 (.quiet 7 (.quiet 8 (.quiet 9 (.quiet 10 (.quiet 11 (.quiet 12 (.quiet 13 (.fin))))))))))))))) (by kernel_rfl) ?_
    simp only [go_sem, seval, b0, h6, w1, w2, Int.toNat_natCast, List.getElem?_map, List.length_map, ep, TxD.av, TxD.cells]
    repeat with_reducible refine And.intro (by first | omega | (simp only [List.length_cons, List.length_append, List.length_nil, List.length_map, List.length_take, List.length_drop, List.length_set]; omega)) ?_
    try simp only [go_sem, seval]
    refine ex_br (fun h7 => ?_) (fun h7 => ?_)
    · have h7 := of_decide_eq_true h7
      rw [err 2 (by rw [e0, if_pos ⟨hn, by omega⟩]) (by decide)]
      simp only [go_sem, seval]
      refine finAdd (sh := false) ?_
      show resOf _ _ [.tmp 4, .tmp 5] = _
      simp only [go_sem, seval]
    · have h7 := of_decide_eq_false h7
      rw [if_neg (fun k : t.nonce = a.nonce + (l.length : Int) ∧ 6 ≤ l.length => by omega)] at e0
      have hset : l.map TxD.av ++ [.agg t.cells] = (l ++ [t]).map TxD.av := by rw [List.map_append]; rfl
      have hsp := c_chain_spent (l ++ [t]) (by rw [List.length_append]; unfold reachBytes; simp; omega) (fun x hx => by
        rcases List.mem_append.1 hx with hx | hx
        · exact hok x hx
        · rw [List.mem_singleton] at hx; rw [hx]; exact h)
      simp only [go_sem, seval]
      refine ex_call (by exact c_tx_Copy t h) ?_
      simp only [go_sem, seval, TxD.av, cells_len, List.length_map]
      repeat with_reducible refine And.intro (by first | omega | (simp only [List.length_cons, List.length_append, List.length_nil, List.length_map, List.length_take, List.length_drop, List.length_set]; omega)) ?_
      rw [hset]
      refine ex_call_dull (.cons (dsl _ _ _) .nil) (by exact hsp) ?_
      cases h8 : chainOk (l ++ [t])
      · rw [err 8 (by rw [e0, e1, h8]; rfl) (by decide)]
        simp only [go_sem, seval, u]
        refine finAdd (sh := false) ?_
        show resOf _ _ [.tmp 4, .tmp 5] = _
        simp only [go_sem, seval]
      · rw [good (by rw [e0, e1, h8]; rfl), e1]
        simp only [go_sem, seval, u]
        refine finAdd (sh := true) ?_
        show resOf _ _ [.tmp 4, .tmp 5] = _
        simp only [go_sem, seval]
  · have h6' := of_decide_eq_true h6
    rw [if_pos (show t.nonce < a.nonce + (l.length : Int) by omega)] at e1
    rw [if_neg (fun k : t.nonce = a.nonce + (l.length : Int) ∧ 6 ≤ l.length => by omega)] at e0
    have w3 : IntKind.i64.wrap (t.nonce - a.nonce) = (((t.nonce - a.nonce).toNat : Nat) : Int) := by rw [wi64 (by omega) (by omega)]; omega
    have hk : (t.nonce - a.nonce).toNat < l.length := by omega
    obtain ⟨k, ek⟩ : ∃ k, k = (t.nonce - a.nonce).toNat := ⟨_, rfl⟩
    rw [← ek] at e1 w3 hk
    obtain ⟨y, ey⟩ : ∃ y, l[k]? = some y := ⟨_, List.getElem?_eq_getElem hk⟩
    have hset : (l.map TxD.av).set k (.agg t.cells) = (l.set k t).map TxD.av := by rw [List.map_set]; rfl
    have hsp := c_chain_spent (l.set k t) (by rw [List.length_set]; exact hl0) (fun x hx => by
      rcases List.mem_or_eq_of_mem_set hx with hx | hx
      · exact hok x hx
      · rw [hx]; exact h)
    refine ex_draw [] [] (.quiet 0 (.quiet 1 (.quiet 2 (.quiet 3 (.quiet 4 (.quiet 5 (.quiet 6 (.quiet 7 (.quiet 8 (.quiet 9 (.quiet 10 (.quiet 11 (.quiet 12 (.quiet 13 (.fin))))))))))))))) (by kernel_rfl) ?_
    simp only [go_sem, seval, b0, h6, w1, w2, Int.toNat_natCast, List.getElem?_map, List.length_map, ep, TxD.av, TxD.cells]
    repeat with_reducible refine And.intro (by first | omega | (simp only [List.length_cons, List.length_append, List.length_nil, List.length_map, List.length_take, List.length_drop, List.length_set]; omega)) ?_
    try simp only [go_sem, seval]
    refine ex_draw [11] [] (.quiet 0 (.quiet 1 (.quiet 2 (.quiet 3 (.quiet 4 (.quiet 5 (.quiet 6 (.quiet 7 (.quiet 8 (.one 9 (.quiet 10 (.unlock (.one 11 (.fin)))))))))))))) (by kernel_rfl) ?_
    simp only [go_sem, seval, w3, Int.toNat_natCast, Int.toNat_zero, List.getElem?_map, List.length_map, ea, TxD.av, TxD.cells]
    repeat with_reducible refine And.intro (by first | omega | (simp only [List.length_cons, List.length_append, List.length_nil, List.length_map, List.length_take, List.length_drop, List.length_set]; omega)) ?_
    refine ex_call (by exact c_tx_Copy t h) ?_
    simp only [go_sem, seval, TxD.av, cells_len, List.length_map, w3, Int.toNat_natCast, List.getElem?_map, ey]
    repeat with_reducible refine And.intro (by first | omega | (simp only [List.length_cons, List.length_append, List.length_nil, List.length_map, List.length_take, List.length_drop, List.length_set]; omega)) ?_
    try simp only [go_sem, seval, TxD.av, cells_len, List.length_map, w3, Int.toNat_natCast, List.getElem?_map, ey]
    rw [hset]
    refine ex_call_dull (.cons (dsl _ _ _) .nil) (by exact hsp) ?_
    cases h8 : chainOk (l.set k t)
    · rw [err 8 (by rw [e0, e1, h8]; rfl) (by decide)]
      simp only [go_sem, seval, u]
      refine finAdd (sh := false) ?_
      show resOf _ _ [.tmp 4, .tmp 5] = _
      simp only [go_sem, seval]
    · rw [good (by rw [e0, e1, h8]; rfl), e1]
      simp only [go_sem, seval, u]
      refine finAdd (sh := true) ?_
      show resOf _ _ [.tmp 4, .tmp 5] = _
      simp only [go_sem, seval]
theorem c_chain_Add (l : List TxD) (t : TxD) (hl : l.length * 200 ≤ reachBytes) (hok : ∀ a ∈ l, a.ok) (h : t.ok) :
    Contract Try.prog 32 [txs l, t.av] (.tup [.sl false 21 ((if addErr l t = 0 then addOut l t else []).map TxD.av), .int .i64 (addErr l t)]) := by
  cases e : l[0]? with
  | none =>
    obtain rfl : l = [] := by
      cases l with
      | nil => rfl
      | cons a r => simp at e
    exact c_chain_Add_nil t h
  | some a => exact c_chain_Add_cons l a t e hl hok h
end Go.Proofs.Ytpepfhbfooeoeaa.VA
end
section
/- The laws on chains: what they are asked, and their small functions. -/
namespace Go.Proofs.Ytpepfhbfooeoeaa.VA
set_option maxRecDepth 10000
set_option linter.unusedSimpArgs false
set_option linter.unusedVariables false
set_option maxHeartbeats 8000000

structure ScriptD where
  c : List TxD
  l : List TxD
  n : List Int
  bal : Nat
def ScriptD.av (p : ScriptD) : AV := .agg [txs p.c, txs p.l, ints .i64 p.n, .int .u64 (lim p.bal 0), .int .u64 (lim p.bal 1), .int .u64 (lim p.bal 2), .int .u64 (lim p.bal 3)]
theorem ScriptD.plain (p : ScriptD) : Plain p.av := .agg _ fun c hc => by
  simp only [List.mem_cons, List.not_mem_nil, or_false] at hc
  rcases hc with rfl | rfl | rfl | rfl | rfl | rfl | rfl <;> first | exact .int _ _ | exact ints_plain _ _ | exact txs_plain _
structure ScriptD.ok (p : ScriptD) : Prop where
  cl : p.c.length * 200 ≤ reachBytes
  c : ∀ t ∈ p.c, t.ok
  ll : p.l.length * 200 ≤ reachBytes
  l : ∀ t ∈ p.l, t.ok
  nl : p.n.length * 8 ≤ reachBytes
  n : ∀ x ∈ p.n, -9223372036854775808 ≤ x ∧ x ≤ 9223372036854775807
  bal : p.bal < U
theorem ty_script {x : AV} (h : Ty ti 49 x) : ∃ p : ScriptD, x = p.av ∧ p.ok := by
  obtain ⟨xs, rfl, hn, hall⟩ := ty_struct (fs := [(0, 1, 46), (1, 1, 46), (2, 1, 47), (3, 4, 25)]) (by rw [ti49]) h
  match xs, hn with
  | [x0, x1, x2, x3], _ =>
    obtain ⟨c, rfl, h0, h1⟩ := ty_txs (hall 0 _ _ _ x0 rfl rfl)
    obtain ⟨l, rfl, h2, h3⟩ := ty_txs (hall 1 _ _ _ x1 rfl rfl)
    obtain ⟨n, rfl, h4, h5⟩ := ty_ints (e := 3) (eb := 8) (k := .i64) (by rw [ti47]) (by rw [ti3]) (hall 2 _ _ _ x2 rfl rfl)
    obtain ⟨b, rfl, h6⟩ := ty_u (hall 3 _ _ _ x3 rfl rfl)
    exact ⟨⟨c, l, n, b⟩, rfl, h0, h1, h2, h3, h4, fun x hx => wf_i64 (h5 x hx), h6⟩

theorem c_law14_num (e : Int) : Contract Try.prog 30 [.int .i64 e] (.int .i64 e) := by
  refine contract_of (C := cf 4 [0, 2] (fun _ => [])) (cf_ok _ _ _) (fn := Try.f30) Try.func30 (by kernel_rfl) rfl (by kernel_rfl) (by simp [cf]) (plain1 (.int _ e)) (by decide) (noCell (by kernel_rfl)) ?_
  simp only [go_sem, ↓reduceIte, Nat.reduceLT, Nat.reduceLeDiff, Nat.reduceAdd, Nat.reduceSub, Nat.reduceMul, Nat.reduceEqDiff, Nat.reduceBEq, Nat.reduceMod, Nat.reduceDiv, Int.reduceToNat, reduceCtorEq, Int.reduceLT, Int.reduceLE, Int.reduceGT, Int.reduceGE, Int.reduceAdd, Int.reduceSub, Int.reduceMul, Int.reduceNeg, Int.reduceEq, Int.reduceNe, Int.reduceBNe, Int.reduceBEq, Int.reduceDiv]
  refine finOne ?_ (fun _ e => by cases e)
  show resOf _ _ [.tmp 2] = _
  simp only [go_sem, ↓reduceIte, Nat.reduceLT, Nat.reduceLeDiff, Nat.reduceAdd, Nat.reduceSub, Nat.reduceMul, Nat.reduceEqDiff, Nat.reduceBEq, Nat.reduceMod, Nat.reduceDiv, Int.reduceToNat, reduceCtorEq, Int.reduceLT, Int.reduceLE, Int.reduceGT, Int.reduceGE, Int.reduceAdd, Int.reduceSub, Int.reduceMul, Int.reduceNeg, Int.reduceEq, Int.reduceNe, Int.reduceBNe, Int.reduceBEq, Int.reduceDiv]
def heavy14 (p : ScriptD) : Bool := decide (IntKind.i64.wrap (weighs p.c.length p.c + weighs p.l.length p.l) > 4000) || decide ((p.n.length : Int) > 500)
theorem c_law14_heavy (p : ScriptD) (h : p.ok) : Contract Try.prog 27 [p.av] (.bool (heavy14 p)) := by
  refine contract_of (C := cf 17 [1, 2] (fun _ => [])) (cf_ok _ _ _) (fn := Try.f27) Try.func27 (by kernel_rfl) rfl (by kernel_rfl) (by simp [cf]) (plain1 p.plain) (by decide) (noCell (by kernel_rfl)) ?_
  simp only [go_sem, ↓reduceIte, Nat.reduceLT, Nat.reduceLeDiff, Nat.reduceAdd, Nat.reduceSub, Nat.reduceMul, Nat.reduceEqDiff, Nat.reduceBEq, Nat.reduceMod, Nat.reduceDiv, Int.reduceToNat, reduceCtorEq, Int.reduceLT, Int.reduceLE, Int.reduceGT, Int.reduceGE, Int.reduceAdd, Int.reduceSub, Int.reduceMul, Int.reduceNeg, Int.reduceEq, Int.reduceNe, Int.reduceBNe, Int.reduceBEq, Int.reduceDiv, ScriptD.av, txs, ints]
  refine ex_draw [] [] (.quiet 0 (.quiet 1 (.quiet 3 (.quiet 4 (.one 2 (.one 5 (.quiet 6 (.quiet 7 (.quiet 8 (.quiet 9 (.quiet 10 (.quiet 11 (.quiet 12 (.quiet 13 (.quiet 14 (.fin)))))))))))))))) (by kernel_rfl) ?_
  simp only [go_sem, ↓reduceIte, Nat.reduceLT, Nat.reduceLeDiff, Nat.reduceAdd, Nat.reduceSub, Nat.reduceMul, Nat.reduceEqDiff, Nat.reduceBEq, Nat.reduceMod, Nat.reduceDiv, Int.reduceToNat, reduceCtorEq, Int.reduceLT, Int.reduceLE, Int.reduceGT, Int.reduceGE, Int.reduceAdd, Int.reduceSub, Int.reduceMul, Int.reduceNeg, Int.reduceEq, Int.reduceNe, Int.reduceBNe, Int.reduceBEq, Int.reduceDiv]
  refine ex_call (by exact c_TxsWeight p.c h.cl h.c) ?_
  simp only [go_sem, ↓reduceIte, Nat.reduceLT, Nat.reduceLeDiff, Nat.reduceAdd, Nat.reduceSub, Nat.reduceMul, Nat.reduceEqDiff, Nat.reduceBEq, Nat.reduceMod, Nat.reduceDiv, Int.reduceToNat, reduceCtorEq, Int.reduceLT, Int.reduceLE, Int.reduceGT, Int.reduceGE, Int.reduceAdd, Int.reduceSub, Int.reduceMul, Int.reduceNeg, Int.reduceEq, Int.reduceNe, Int.reduceBNe, Int.reduceBEq, Int.reduceDiv]
  refine ex_call (by exact c_TxsWeight p.l h.ll h.l) ?_
  cases hw : decide (IntKind.i64.wrap (weighs p.c.length p.c + weighs p.l.length p.l) > 4000)
  · have e : heavy14 p = decide ((p.n.length : Int) > 500) := by unfold heavy14; rw [hw]; rfl
    simp only [go_sem, ↓reduceIte, Nat.reduceLT, Nat.reduceLeDiff, Nat.reduceAdd, Nat.reduceSub, Nat.reduceMul, Nat.reduceEqDiff, Nat.reduceBEq, Nat.reduceMod, Nat.reduceDiv, Int.reduceToNat, reduceCtorEq, Int.reduceLT, Int.reduceLE, Int.reduceGT, Int.reduceGE, Int.reduceAdd, Int.reduceSub, Int.reduceMul, Int.reduceNeg, Int.reduceEq, Int.reduceNe, Int.reduceBNe, Int.reduceBEq, Int.reduceDiv, hw, List.length_map, e]
    refine finOne ?_ (fun _ e => by cases e)
    show resOf _ _ [.tmp 2] = _
    simp only [go_sem, ↓reduceIte, Nat.reduceLT, Nat.reduceLeDiff, Nat.reduceAdd, Nat.reduceSub, Nat.reduceMul, Nat.reduceEqDiff, Nat.reduceBEq, Nat.reduceMod, Nat.reduceDiv, Int.reduceToNat, reduceCtorEq, Int.reduceLT, Int.reduceLE, Int.reduceGT, Int.reduceGE, Int.reduceAdd, Int.reduceSub, Int.reduceMul, Int.reduceNeg, Int.reduceEq, Int.reduceNe, Int.reduceBNe, Int.reduceBEq, Int.reduceDiv]
  · have e : heavy14 p = true := by unfold heavy14; rw [hw]; rfl
    simp only [go_sem, ↓reduceIte, Nat.reduceLT, Nat.reduceLeDiff, Nat.reduceAdd, Nat.reduceSub, Nat.reduceMul, Nat.reduceEqDiff, Nat.reduceBEq, Nat.reduceMod, Nat.reduceDiv, Int.reduceToNat, reduceCtorEq, Int.reduceLT, Int.reduceLE, Int.reduceGT, Int.reduceGE, Int.reduceAdd, Int.reduceSub, Int.reduceMul, Int.reduceNeg, Int.reduceEq, Int.reduceNe, Int.reduceBNe, Int.reduceBEq, Int.reduceDiv, hw, List.length_map, e]
    refine finOne ?_ (fun _ e => by cases e)
    show resOf _ _ [.tmp 2] = _
    simp only [go_sem, ↓reduceIte, Nat.reduceLT, Nat.reduceLeDiff, Nat.reduceAdd, Nat.reduceSub, Nat.reduceMul, Nat.reduceEqDiff, Nat.reduceBEq, Nat.reduceMod, Nat.reduceDiv, Int.reduceToNat, reduceCtorEq, Int.reduceLT, Int.reduceLE, Int.reduceGT, Int.reduceGE, Int.reduceAdd, Int.reduceSub, Int.reduceMul, Int.reduceNeg, Int.reduceEq, Int.reduceNe, Int.reduceBNe, Int.reduceBEq, Int.reduceDiv]

theorem plain_ok5 (p : Nat) (hp : 2 * p < 18446744073709551616) (f n : Int) (hf : -9223372036854775808 ≤ f ∧ f ≤ 9223372036854775807) (hn : -9223372036854775808 ≤ n ∧ n ≤ 9223372036854775807) : (plainTx f n p).ok := plain_ok f n p hf hn hp
theorem chain_w1 : ChainP [plainTx 1 5 2] := ⟨by decide, fun i t e => by
    match i, e with
    | 0, e => cases e; decide +kernel, fun i a t e0 e => by
    match i, e with
    | 0, e => cases e; cases e0; exact ⟨rfl, rfl⟩, by decide +kernel⟩
theorem chain_w2 : ChainP [plainTx 1 5 2, plainTx 1 6 2] := ⟨by decide, fun i t e => by
    match i, e with
    | 0, e => cases e; decide +kernel
    | 1, e => cases e; decide +kernel, fun i a t e0 e => by
    match i, e with
    | 0, e => cases e; cases e0; exact ⟨rfl, rfl⟩
    | 1, e => cases e; cases e0; exact ⟨rfl, rfl⟩, by decide +kernel⟩
theorem add_w1 : addErr [] (plainTx 1 5 2) = 0 := by
  show (if validTx (plainTx 1 5 2) = true then (if chainOk [plainTx 1 5 2] = true then 0 else 8) else 1 : Int) = 0
  rw [if_pos (chain_w1.valid 0 _ rfl), if_pos (chainOk_yes chain_w1)]
theorem add_w2 : addErr [plainTx 1 5 2] (plainTx 1 6 2) = 0 := by
  have ho : addOut [plainTx 1 5 2] (plainTx 1 6 2) = [plainTx 1 5 2, plainTx 1 6 2] := rfl
  unfold addErr
  simp only [List.getElem?_cons_zero]
  rw [if_pos ⟨chainOk_yes chain_w1, chain_w2.valid 1 _ rfl, rfl⟩, if_neg (by decide), if_neg (by decide), if_neg (by decide), ho, if_pos (chainOk_yes chain_w2)]
theorem c_law14_wakes : Contract Try.prog 37 [] (.bool true) := by
  have ok5 : (plainTx 1 5 2).ok := plain_ok 1 5 2 (by decide) (by decide) (by decide)
  have ok6 : (plainTx 1 6 2).ok := plain_ok 1 6 2 (by decide) (by decide) (by decide)
  have a1 := c_chain_Add [] (plainTx 1 5 2) (by decide) (by simp) ok5
  rw [add_w1, if_pos rfl, show addOut [] (plainTx 1 5 2) = [plainTx 1 5 2] from rfl] at a1
  have a2 := c_chain_Add [plainTx 1 5 2] (plainTx 1 6 2) (by decide) (by simpa using ok5) ok6
  rw [add_w2, if_pos rfl, show addOut [plainTx 1 5 2] (plainTx 1 6 2) = [plainTx 1 5 2, plainTx 1 6 2] from rfl] at a2
  have a3 := c_chain_Next [plainTx 1 5 2, plainTx 1 6 2] 0 (by decide) (by simpa using ⟨ok5, ok6⟩) (chainOk_yes chain_w2) (by decide)
  rw [show nextOf [plainTx 1 5 2, plainTx 1 6 2] 0 = 7 from rfl] at a3
  refine contract_of (C := cf 44 [0, 1, 2, 3, 4, 5] (fun _ => [])) (cf_ok _ _ _) (fn := Try.f37) Try.func37 (by kernel_rfl) rfl (by kernel_rfl) (by simp [cf]) (fun _ h => by cases h) (by decide) (noCell (by kernel_rfl)) ?_
  simp only [go_sem, ↓reduceIte, Nat.reduceLT, Nat.reduceLeDiff, Nat.reduceAdd, Nat.reduceSub, Nat.reduceMul, Nat.reduceEqDiff, Nat.reduceBEq, Nat.reduceMod, Nat.reduceDiv, Int.reduceToNat, reduceCtorEq, Int.reduceLT, Int.reduceLE, Int.reduceGT, Int.reduceGE, Int.reduceAdd, Int.reduceSub, Int.reduceMul, Int.reduceNeg, Int.reduceEq, Int.reduceNe, Int.reduceBNe, Int.reduceBEq, Int.reduceDiv]
  refine ex_call (by exact c_T 1 5 2 (by decide)) ?_
  simp only [go_sem, ↓reduceIte, Nat.reduceLT, Nat.reduceLeDiff, Nat.reduceAdd, Nat.reduceSub, Nat.reduceMul, Nat.reduceEqDiff, Nat.reduceBEq, Nat.reduceMod, Nat.reduceDiv, Int.reduceToNat, reduceCtorEq, Int.reduceLT, Int.reduceLE, Int.reduceGT, Int.reduceGE, Int.reduceAdd, Int.reduceSub, Int.reduceMul, Int.reduceNeg, Int.reduceEq, Int.reduceNe, Int.reduceBNe, Int.reduceBEq, Int.reduceDiv, TxD.av]
  refine ex_call_dull (.cons (dsl _ _ _) (.cons (.refl _) .nil)) (by exact a1) ?_
  simp only [go_sem, ↓reduceIte, Nat.reduceLT, Nat.reduceLeDiff, Nat.reduceAdd, Nat.reduceSub, Nat.reduceMul, Nat.reduceEqDiff, Nat.reduceBEq, Nat.reduceMod, Nat.reduceDiv, Int.reduceToNat, reduceCtorEq, Int.reduceLT, Int.reduceLE, Int.reduceGT, Int.reduceGE, Int.reduceAdd, Int.reduceSub, Int.reduceMul, Int.reduceNeg, Int.reduceEq, Int.reduceNe, Int.reduceBNe, Int.reduceBEq, Int.reduceDiv]
  refine ex_call (by exact c_T 1 6 2 (by decide)) ?_
  simp only [go_sem, ↓reduceIte, Nat.reduceLT, Nat.reduceLeDiff, Nat.reduceAdd, Nat.reduceSub, Nat.reduceMul, Nat.reduceEqDiff, Nat.reduceBEq, Nat.reduceMod, Nat.reduceDiv, Int.reduceToNat, reduceCtorEq, Int.reduceLT, Int.reduceLE, Int.reduceGT, Int.reduceGE, Int.reduceAdd, Int.reduceSub, Int.reduceMul, Int.reduceNeg, Int.reduceEq, Int.reduceNe, Int.reduceBNe, Int.reduceBEq, Int.reduceDiv, TxD.av]
  refine ex_call (by exact a2) ?_
  simp only [go_sem, ↓reduceIte, Nat.reduceLT, Nat.reduceLeDiff, Nat.reduceAdd, Nat.reduceSub, Nat.reduceMul, Nat.reduceEqDiff, Nat.reduceBEq, Nat.reduceMod, Nat.reduceDiv, Int.reduceToNat, reduceCtorEq, Int.reduceLT, Int.reduceLE, Int.reduceGT, Int.reduceGE, Int.reduceAdd, Int.reduceSub, Int.reduceMul, Int.reduceNeg, Int.reduceEq, Int.reduceNe, Int.reduceBNe, Int.reduceBEq, Int.reduceDiv]
  refine ex_call (by exact a3) ?_
  simp only [go_sem, ↓reduceIte, Nat.reduceLT, Nat.reduceLeDiff, Nat.reduceAdd, Nat.reduceSub, Nat.reduceMul, Nat.reduceEqDiff, Nat.reduceBEq, Nat.reduceMod, Nat.reduceDiv, Int.reduceToNat, reduceCtorEq, Int.reduceLT, Int.reduceLE, Int.reduceGT, Int.reduceGE, Int.reduceAdd, Int.reduceSub, Int.reduceMul, Int.reduceNeg, Int.reduceEq, Int.reduceNe, Int.reduceBNe, Int.reduceBEq, Int.reduceDiv]
  refine ex_call (c_law14_num _) ?_
  simp only [go_sem, ↓reduceIte, Nat.reduceLT, Nat.reduceLeDiff, Nat.reduceAdd, Nat.reduceSub, Nat.reduceMul, Nat.reduceEqDiff, Nat.reduceBEq, Nat.reduceMod, Nat.reduceDiv, Int.reduceToNat, reduceCtorEq, Int.reduceLT, Int.reduceLE, Int.reduceGT, Int.reduceGE, Int.reduceAdd, Int.reduceSub, Int.reduceMul, Int.reduceNeg, Int.reduceEq, Int.reduceNe, Int.reduceBNe, Int.reduceBEq, Int.reduceDiv]
  refine ex_call (c_law14_num _) ?_
  simp only [go_sem, ↓reduceIte, Nat.reduceLT, Nat.reduceLeDiff, Nat.reduceAdd, Nat.reduceSub, Nat.reduceMul, Nat.reduceEqDiff, Nat.reduceBEq, Nat.reduceMod, Nat.reduceDiv, Int.reduceToNat, reduceCtorEq, Int.reduceLT, Int.reduceLE, Int.reduceGT, Int.reduceGE, Int.reduceAdd, Int.reduceSub, Int.reduceMul, Int.reduceNeg, Int.reduceEq, Int.reduceNe, Int.reduceBNe, Int.reduceBEq, Int.reduceDiv]
  refine ex_call (c_law14_num _) ?_
  simp only [go_sem, ↓reduceIte, Nat.reduceLT, Nat.reduceLeDiff, Nat.reduceAdd, Nat.reduceSub, Nat.reduceMul, Nat.reduceEqDiff, Nat.reduceBEq, Nat.reduceMod, Nat.reduceDiv, Int.reduceToNat, reduceCtorEq, Int.reduceLT, Int.reduceLE, Int.reduceGT, Int.reduceGE, Int.reduceAdd, Int.reduceSub, Int.reduceMul, Int.reduceNeg, Int.reduceEq, Int.reduceNe, Int.reduceBNe, Int.reduceBEq, Int.reduceDiv, List.map_cons, List.map_nil, List.length_cons, List.length_nil, Int.cast_ofNat_Int]
  refine finOne ?_ (fun _ e => by cases e)
  show resOf _ _ [.tmp 0] = _
  simp only [go_sem, ↓reduceIte, Nat.reduceLT, Nat.reduceLeDiff, Nat.reduceAdd, Nat.reduceSub, Nat.reduceMul, Nat.reduceEqDiff, Nat.reduceBEq, Nat.reduceMod, Nat.reduceDiv, Int.reduceToNat, reduceCtorEq, Int.reduceLT, Int.reduceLE, Int.reduceGT, Int.reduceGE, Int.reduceAdd, Int.reduceSub, Int.reduceMul, Int.reduceNeg, Int.reduceEq, Int.reduceNe, Int.reduceBNe, Int.reduceBEq, Int.reduceDiv]
end Go.Proofs.Ytpepfhbfooeoeaa.VA
end
section
/- Copies, and one more transaction at its place: of new memory alone. -/
namespace Go.Proofs.Ytpepfhbfooeoeaa.VA
set_option maxRecDepth 10000
set_option linter.unusedSimpArgs false
set_option linter.unusedVariables false
set_option maxHeartbeats 16000000


def TxD.cellsT (t : TxD) : List AV := [.int .i64 t.frm, .int .i64 t.nonce, .int .u64 (lim t.tip 0), .int .u64 (lim t.tip 1), .int .u64 (lim t.tip 2), .int .u64 (lim t.tip 3), .int .u64 (lim t.cap 0), .int .u64 (lim t.cap 1), .int .u64 (lim t.cap 2), .int .u64 (lim t.cap 3), .int .u64 (lim t.bcap 0), .int .u64 (lim t.bcap 1), .int .u64 (lim t.bcap 2), .int .u64 (lim t.bcap 3), .int .u64 (lim t.value 0), .int .u64 (lim t.value 1), .int .u64 (lim t.value 2), .int .u64 (lim t.value 3), .int .i64 t.gas, .sl true 1 (t.hashes.map (AV.int .u64)), .sl true 1 (t.blobs.map AV.str)]
theorem dull_eq (t : TxD) : t.dull = .agg t.cellsT := rfl
theorem cellsT_len (t : TxD) : t.cellsT.length = 21 := rfl
theorem dulls_map (l : List TxD) (fr : Bool) : Dull (.sl fr 21 (l.map TxD.dull)) (.sl false 21 (l.map TxD.av)) := .sl fr 21 _ _ (by simp) fun j x y hx hy => by
  rw [List.getElem?_map] at hx hy
  cases e : l[j]? with
  | none => rw [e] at hx; cases hx
  | some t => rw [e] at hx hy; cases hx; cases hy; exact t.dull_av
theorem finAddT {C : Cfg} {σ : ASt} {rs : List ResultVar} {sh : Bool} {es : List AV} {e : Int} (h : resOf C σ rs = some (.tup [.own sh 21 es, .int .i64 e])) : BodyPost C rs (.tup [.sl true 21 es, .int .i64 e]) .ret σ :=
  finTupD h (.cons (.froz (.refl _)) (.cons (.dull (.refl _)) .nil))
theorem c_tx_CopyT (t : TxD) (h : t.ok) : Contract Try.prog 85 [t.av] (.agg t.cellsT) := by
  refine contract_of (C := cf 12 [1, 2] (fun _ => [])) (cf_ok _ _ _) (fn := Try.f85) Try.func85 (by kernel_rfl) rfl (by kernel_rfl) (by simp [cf]) (plain1 t.plain) (by decide) (cellsOk (by kernel_rfl)) ?_
  simp only [go_sem, seval, TxD.av, TxD.cells, ints, strs]
  refine ex_draw [7, 9] [] (.quiet 0 (.quiet 1 (.quiet 3 (.quiet 4 (.one 2 (.quiet 6 (.one 5 (.unlock (.one 7 (.quiet 8 (.one 9 (.fin)))))))))))) (by kernel_rfl) ?_
  simp only [go_sem, seval]
  refine ex_call (by exact c_Clone_u64 t.hashes h.hashes) ?_
  simp only [go_sem, seval]
  refine ex_call (by exact c_Clone_str t.blobs h.blobs) ?_
  simp only [go_sem, seval]
  refine finOne ?_ (fun _ e => by cases e)
  show resOf _ _ [.cell 2 29] = _
  simp only [go_sem, seval, TxD.cellsT]
theorem c_tx_CopiesT (l : List TxD) (hl : l.length * 200 ≤ reachBytes) (hok : ∀ a ∈ l, a.ok) : Contract Try.prog 84 [txs l] (.own false 21 (l.map TxD.dull)) := by
  unfold reachBytes at hl
  refine contract_of (C := cf 19 [0, 2, 3, 5, 6, 7, 8, 9] (fun _ => [])) (cf_ok _ _ _) (fn := Try.f84) Try.func84 (by kernel_rfl) rfl (by kernel_rfl) (by simp [cf]) (plain1 (txs_plain l)) (by decide) (noCell (by kernel_rfl)) ?_
  simp only [go_sem, seval, txs, List.length_map]
  refine ex_iter [0, 3, 6, 7, 8] (fun i : Nat => ⟨[(0, .sl false 21 (l.map TxD.av)), (3, .own false 21 ((l.take i).map TxD.dull)), (6, .sl false 21 (l.map TxD.av)), (7, .int .i64 l.length), (8, .int .i64 i)], [], []⟩) (fun i => i ≤ l.length) (fun i => l.length - i) 0 ?_ ?_ ?_
  · simp only [ASt.keep, consIf, keepL, keepV, AV.isBot, List.contains_cons, List.contains_nil, Nat.reduceBEq, Bool.or_false, Bool.false_or, Bool.or_true, Bool.true_or, beq_self_eq_true, Bool.false_eq_true, ↓reduceIte, if_false, if_true]
    rfl
  · exact Nat.zero_le _
  · intro n i hi next
    simp only [go_sem, seval, List.length_map]
    refine ex_br (fun h => ?_) (fun h => ?_)
    · have hlt : i < l.length := by simpa using h
      obtain ⟨x, ex⟩ : ∃ x, l[i]? = some x := ⟨_, List.getElem?_eq_getElem hlt⟩
      have hs : (l.take i).map TxD.dull ++ [.agg x.cellsT] = (l.take (i + 1)).map TxD.dull := take_snoc TxD.dull ex
      simp only [go_sem, seval, List.length_map, List.getElem?_map, ex, Int.toNat_natCast, TxD.av, TxD.cells, ints, strs]
      repeat with_reducible refine And.intro (by first | omega | (simp only [List.length_cons, List.length_append, List.length_nil, List.length_map, List.length_take, List.length_drop, List.length_set]; omega)) ?_
      refine ex_call (by exact c_tx_CopyT x (hok x (List.mem_of_getElem? ex))) ?_
      simp only [go_sem, seval, List.length_map, TxD.av, cellsT_len]
      repeat with_reducible refine And.intro (by first | omega | (simp only [List.length_cons, List.length_append, List.length_nil, List.length_map, List.length_take, List.length_drop, List.length_set]; omega)) ?_
      refine next (i + 1) _ (by omega) (by omega) ?_
      rw [← wi64_nat i (by omega), ← hs]
      simp only [ASt.keep, consIf, keepL, keepV, AV.isBot, List.contains_cons, List.contains_nil, Nat.reduceBEq, Bool.or_false, Bool.false_or, Bool.or_true, Bool.true_or, beq_self_eq_true, Bool.false_eq_true, ↓reduceIte, if_false, if_true]
    · have hge : i = l.length := by simp at h; omega
      subst hge
      simp only [go_sem, seval, List.take_length]
      refine finOne ?_ (fun _ e => by cases e)
      show resOf _ _ [.tmp 2] = _
      simp only [go_sem, seval]
theorem c_chain_AddT_nil (t : TxD) (h : t.ok) : Contract Try.prog 32 [txs [], t.av] (.tup [.sl true 21 ((if addErr [] t = 0 then addOut [] t else []).map TxD.dull), .int .i64 (addErr [] t)]) := by
  obtain ⟨res, hres⟩ : ∃ res, res = (.tup [.sl true 21 ((if addErr [] t = 0 then addOut [] t else []).map TxD.dull), .int .i64 (addErr [] t)] : AV) := ⟨_, rfl⟩
  rw [← hres]
  have e0 : addErr [] t = if validTx t = true then (if chainOk [t] = true then 0 else 8) else 1 := rfl
  have e1 : addOut [] t = [t] := rfl
  have err : ∀ e : Int, addErr [] t = e → e ≠ 0 → res = .tup [.sl true 21 [], .int .i64 e] := fun e he hne => by
    rw [hres, he, if_neg hne]; rfl
  have good : addErr [] t = 0 → res = .tup [.sl true 21 ((addOut [] t).map TxD.dull), .int .i64 0] := fun he => by
    rw [hres, he, if_pos rfl]
  clear hres
  have hch := c_chain_Check [] (by decide) (by simp)
  rw [if_pos chainOk_nil] at hch
  refine contract_of (C := cf 103 [0, 3, 4, 5, 6, 7, 9, 32, 40, 52, 67, 92, 101] (fun _ => [])) (cf_ok _ _ _) (fn := Try.f32) Try.func32 (by kernel_rfl) rfl (by kernel_rfl) (by simp [cf]) (plain2 (txs_plain []) t.plain) (by decide) (noCell (by kernel_rfl)) ?_
  simp only [go_sem, seval, txs, TxD.av, TxD.cells, ints, strs]
  refine ex_draw [] [] (.quiet 0 (.one 1 (.quiet 2 (.quiet 3 (.quiet 4 (.one 5 (.quiet 6 (.quiet 7 (.quiet 8 (.quiet 9 (.quiet 10 (.quiet 11 (.quiet 12 (.quiet 13 (.quiet 14 (.quiet 15 (.quiet 16 (.quiet 17 (.quiet 18 (.quiet 19 (.quiet 20 (.fin)))))))))))))))))))))) (by kernel_rfl) ?_
  simp only [go_sem, seval, Int.cast_ofNat_Int]
  refine ex_call (by exact hch) ?_
  simp only [go_sem, seval, Int.cast_ofNat_Int]
  refine ex_call (by exact c_tx_Check t h) ?_
  cases h2 : validTx t
  case' false =>
    rw [err 1 (by rw [e0, h2]; rfl) (by decide)]
    simp only [go_sem, seval, Int.cast_ofNat_Int]
    refine finAddT (sh := false) ?_
    show resOf _ _ [.tmp 4, .tmp 5] = _
    simp only [go_sem, seval, Int.cast_ofNat_Int]
  simp only [go_sem, seval, Int.cast_ofNat_Int]
  refine ex_call (by exact c_tx_CopiesT [] (by decide) (by simp)) ?_
  simp only [go_sem, seval, Int.cast_ofNat_Int]
  refine ex_draw [] [] (.quiet 0 (.quiet 1 (.quiet 2 (.quiet 3 (.quiet 4 (.quiet 5 (.quiet 6 (.quiet 7 (.quiet 8 (.quiet 9 (.quiet 10 (.quiet 11 (.fin))))))))))))) (by kernel_rfl) ?_
  simp only [go_sem, seval, Int.cast_ofNat_Int]
  refine ex_draw [] [] (.quiet 0 (.quiet 1 (.quiet 2 (.quiet 3 (.quiet 4 (.quiet 5 (.quiet 6 (.quiet 7 (.quiet 8 (.quiet 9 (.quiet 10 (.quiet 11 (.quiet 12 (.quiet 13 (.quiet 14 (.fin)))))))))))))))) (by kernel_rfl) ?_
  simp only [go_sem, seval, Int.cast_ofNat_Int]
  refine ex_draw [] [] (.quiet 0 (.quiet 1 (.quiet 2 (.quiet 3 (.quiet 4 (.quiet 5 (.quiet 6 (.quiet 7 (.quiet 8 (.quiet 9 (.quiet 10 (.quiet 11 (.quiet 12 (.quiet 13 (.fin))))))))))))))) (by kernel_rfl) ?_
  simp only [go_sem, seval, Int.cast_ofNat_Int]
  refine ex_call (by exact c_tx_CopyT t h) ?_
  simp only [go_sem, seval, TxD.av, dull_eq, cellsT_len]
  repeat with_reducible refine And.intro (by first | omega | (simp only [List.length_cons, List.length_append, List.length_nil, List.length_map, List.length_take, List.length_drop, List.length_set]; omega)) ?_
  have hsp := c_chain_spent [t] (by simp; unfold reachBytes; decide) (by simpa using h)
  refine ex_call_dull (.cons (dulls_map [t] true) .nil) (by exact hsp) ?_
  cases h8 : chainOk [t]
  · rw [err 8 (by rw [e0, h2, h8]; rfl) (by decide)]
    simp only [go_sem, seval, u]
    refine finAddT (sh := false) ?_
    show resOf _ _ [.tmp 4, .tmp 5] = _
    simp only [go_sem, seval, Int.cast_ofNat_Int]
  · rw [good (by rw [e0, h2, h8]; rfl), e1]
    simp only [go_sem, seval, u]
    refine finAddT (sh := true) ?_
    show resOf _ _ [.tmp 4, .tmp 5] = _
    simp only [go_sem, seval, dull_eq]
theorem c_chain_AddT_cons (l : List TxD) (a t : TxD) (ea : l[0]? = some a) (hl : l.length * 200 ≤ reachBytes) (hok : ∀ a ∈ l, a.ok) (h : t.ok) :
    Contract Try.prog 32 [txs l, t.av] (.tup [.sl true 21 ((if addErr l t = 0 then addOut l t else []).map TxD.dull), .int .i64 (addErr l t)]) := by
  have hl0 := hl
  unfold reachBytes at hl
  obtain ⟨res, hres⟩ : ∃ res, res = (.tup [.sl true 21 ((if addErr l t = 0 then addOut l t else []).map TxD.dull), .int .i64 (addErr l t)] : AV) := ⟨_, rfl⟩
  rw [← hres]
  have e0 : addErr l t = if chainOk l = true ∧ validTx t = true ∧ t.frm = a.frm then
      (if t.nonce < a.nonce then 9 else if a.nonce + l.length < t.nonce then 10 else if t.nonce = a.nonce + l.length ∧ 6 ≤ l.length then 2 else if chainOk (addOut l t) = true then 0 else 8) else 1 := by unfold addErr; rw [ea]
  have e1 : addOut l t = if t.nonce < a.nonce + l.length then l.set (t.nonce - a.nonce).toNat t else l ++ [t] := by unfold addOut; rw [ea]
  have err : ∀ e : Int, addErr l t = e → e ≠ 0 → res = .tup [.sl true 21 [], .int .i64 e] := fun e he hne => by
    rw [hres, he, if_neg hne]; rfl
  have good : addErr l t = 0 → res = .tup [.sl true 21 ((addOut l t).map TxD.dull), .int .i64 0] := fun he => by
    rw [hres, he, if_pos rfl]
  clear hres
  have hpos : 0 < l.length := (List.getElem?_eq_some_iff.1 ea).1
  have b0 : decide ((l.length : Int) > 0) = true := decide_eq_true (by omega)
  refine contract_of (C := cf 103 [0, 3, 4, 5, 6, 7, 9, 32, 40, 52, 67, 92, 101] (fun _ => [])) (cf_ok _ _ _) (fn := Try.f32) Try.func32 (by kernel_rfl) rfl (by kernel_rfl) (by simp [cf]) (plain2 (txs_plain l) t.plain) (by decide) (noCell (by kernel_rfl)) ?_
  simp only [go_sem, seval, txs, TxD.av, TxD.cells, ints, strs, List.length_map]
  refine ex_draw [] [] (.quiet 0 (.one 1 (.quiet 2 (.quiet 3 (.quiet 4 (.one 5 (.quiet 6 (.quiet 7 (.quiet 8 (.quiet 9 (.quiet 10 (.quiet 11 (.quiet 12 (.quiet 13 (.quiet 14 (.quiet 15 (.quiet 16 (.quiet 17 (.quiet 18 (.quiet 19 (.quiet 20 (.fin)))))))))))))))))))))) (by kernel_rfl) ?_
  simp only [go_sem, seval]
  refine ex_call (by exact c_chain_Check l hl0 hok) ?_
  cases h1 : chainOk l
  case' false =>
    rw [err 1 (by rw [e0, h1]; rfl) (by decide)]
    simp only [go_sem, seval]
    refine finAddT (sh := false) ?_
    show resOf _ _ [.tmp 4, .tmp 5] = _
    simp only [go_sem, seval]
  have hc := chainOk_iff.1 h1
  simp only [go_sem, seval]
  refine ex_call (by exact c_tx_Check t h) ?_
  cases h2 : validTx t
  case' false =>
    rw [err 1 (by rw [e0, h2]; rw [if_neg]; rintro ⟨_, k, _⟩; cases k) (by decide)]
    simp only [go_sem, seval]
    refine finAddT (sh := false) ?_
    show resOf _ _ [.tmp 4, .tmp 5] = _
    simp only [go_sem, seval]
  have hv := (validTx_parts h2).2.1
  cases h3 : (t.frm != a.frm)
  case' true =>
    rw [err 1 (by rw [e0]; rw [if_neg]; rintro ⟨_, _, k⟩; rw [k] at h3; simp at h3) (by decide)]
    simp only [go_sem, seval, b0, h3, Int.toNat_zero, List.getElem?_map, List.length_map, ea, TxD.av, TxD.cells]
    repeat with_reducible refine And.intro (by first | omega | (simp only [List.length_cons, List.length_append, List.length_nil, List.length_map, List.length_take, List.length_drop, List.length_set]; omega)) ?_
    try simp only [go_sem, seval]
    refine finAddT (sh := false) ?_
    show resOf _ _ [.tmp 4, .tmp 5] = _
    simp only [go_sem, seval]
  have h3' : t.frm = a.frm := by simpa using h3
  rw [if_pos ⟨h1, h2, h3'⟩] at e0
  simp only [go_sem, seval, b0, h3, Int.toNat_zero, List.getElem?_map, List.length_map, ea, TxD.av, TxD.cells]
  repeat with_reducible refine And.intro (by first | omega | (simp only [List.length_cons, List.length_append, List.length_nil, List.length_map, List.length_take, List.length_drop, List.length_set]; omega)) ?_
  refine ex_call (by exact c_tx_CopiesT l hl0 hok) ?_
  simp only [go_sem, seval]
  cases h4 : decide (t.nonce < a.nonce)
  case' true =>
    have h4 := of_decide_eq_true h4
    rw [err 9 (by rw [e0, if_pos h4]) (by decide)]
    refine ex_draw [] [] (.quiet 0 (.quiet 1 (.quiet 2 (.quiet 3 (.quiet 4 (.quiet 5 (.quiet 6 (.quiet 7 (.quiet 8 (.quiet 9 (.quiet 10 (.quiet 11 (.fin))))))))))))) (by kernel_rfl) ?_
    simp only [go_sem, seval, b0, decide_eq_true h4, Int.toNat_zero, List.getElem?_map, List.length_map, ea, TxD.av, TxD.cells]
    repeat with_reducible refine And.intro (by first | omega | (simp only [List.length_cons, List.length_append, List.length_nil, List.length_map, List.length_take, List.length_drop, List.length_set]; omega)) ?_
    try simp only [go_sem, seval]
    refine finAddT (sh := false) ?_
    show resOf _ _ [.tmp 4, .tmp 5] = _
    simp only [go_sem, seval]
  have h4' := of_decide_eq_false h4
  rw [if_neg h4'] at e0
  obtain ⟨p, ep⟩ : ∃ p, l[l.length - 1]? = some p := ⟨_, List.getElem?_eq_getElem (by omega)⟩
  have hp := hc.link (l.length - 1) a p ea ep
  have hpv := (validTx_parts (hc.valid _ p ep)).2.1
  have w1 : IntKind.i64.wrap ((l.length : Int) - 1) = ((l.length - 1 : Nat) : Int) := by rw [wi64 (by omega) (by omega)]; omega
  have w2 : IntKind.i64.wrap (p.nonce + 1) = p.nonce + 1 := wi64 (by omega) (by omega)
  refine ex_draw [] [] (.quiet 0 (.quiet 1 (.quiet 2 (.quiet 3 (.quiet 4 (.quiet 5 (.quiet 6 (.quiet 7 (.quiet 8 (.quiet 9 (.quiet 10 (.quiet 11 (.fin))))))))))))) (by kernel_rfl) ?_
  simp only [go_sem, seval, b0, h4, Int.toNat_zero, List.getElem?_map, List.length_map, ea, TxD.av, TxD.cells]
  repeat with_reducible refine And.intro (by first | omega | (simp only [List.length_cons, List.length_append, List.length_nil, List.length_map, List.length_take, List.length_drop, List.length_set]; omega)) ?_
  try simp only [go_sem, seval]
  cases h5 : decide (t.nonce > p.nonce + 1)
  case' true =>
    have h5 := of_decide_eq_true h5
    rw [err 10 (by rw [e0, if_pos (by omega)]) (by decide)]
    refine ex_draw [] [] (.quiet 0 (.quiet 1 (.quiet 2 (.quiet 3 (.quiet 4 (.quiet 5 (.quiet 6 (.quiet 7 (.quiet 8 (.quiet 9 (.quiet 10 (.quiet 11 (.quiet 12 (.quiet 13 (.quiet 14 (.fin)))))))))))))))) (by kernel_rfl) ?_
    simp only [go_sem, seval, b0, decide_eq_true h5, w1, w2, Int.toNat_natCast, List.getElem?_map, List.length_map, ep, TxD.av, TxD.cells]
    repeat with_reducible refine And.intro (by first | omega | (simp only [List.length_cons, List.length_append, List.length_nil, List.length_map, List.length_take, List.length_drop, List.length_set]; omega)) ?_
    try simp only [go_sem, seval]
    refine finAddT (sh := false) ?_
    show resOf _ _ [.tmp 4, .tmp 5] = _
    simp only [go_sem, seval]
  have h5' := of_decide_eq_false h5
  rw [if_neg (show ¬ a.nonce + (l.length : Int) < t.nonce by omega)] at e0
  refine ex_draw [] [] (.quiet 0 (.quiet 1 (.quiet 2 (.quiet 3 (.quiet 4 (.quiet 5 (.quiet 6 (.quiet 7 (.quiet 8 (.quiet 9 (.quiet 10 (.quiet 11 (.quiet 12 (.quiet 13 (.quiet 14 (.fin)))))))))))))))) (by kernel_rfl) ?_
  simp only [go_sem, seval, b0, h5, w1, w2, Int.toNat_natCast, List.getElem?_map, List.length_map, ep, TxD.av, TxD.cells]
  repeat with_reducible refine And.intro (by first | omega | (simp only [List.length_cons, List.length_append, List.length_nil, List.length_map, List.length_take, List.length_drop, List.length_set]; omega)) ?_
  try simp only [go_sem, seval]
  cases h6 : decide (t.nonce ≤ p.nonce)
  · have h6' := of_decide_eq_false h6
    have hn : t.nonce = a.nonce + l.length := by omega
    rw [if_neg (show ¬ t.nonce < a.nonce + (l.length : Int) by omega)] at e1
    refine ex_draw [] [] (.quiet 0 (.quiet 1 (.quiet 2 (.quiet 3 (.quiet 4 (.quiet 5 (.quiet 6 (.quiet 7 (.quiet 8 (.quiet 9 (.quiet 10 (.quiet 11 (.quiet 12 (.quiet 13 (.fin))))))))))))))) (by kernel_rfl) ?_
    simp only [go_sem, seval, b0, h6, w1, w2, Int.toNat_natCast, List.getElem?_map, List.length_map, ep, TxD.av, TxD.cells]
    repeat with_reducible refine And.intro (by first | omega | (simp only [List.length_cons, List.length_append, List.length_nil, List.length_map, List.length_take, List.length_drop, List.length_set]; omega)) ?_
    try simp only [go_sem, seval]
    refine ex_br (fun h7 => ?_) (fun h7 => ?_)
    · have h7 := of_decide_eq_true h7
      rw [err 2 (by rw [e0, if_pos ⟨hn, by omega⟩]) (by decide)]
      simp only [go_sem, seval]
      refine finAddT (sh := false) ?_
      show resOf _ _ [.tmp 4, .tmp 5] = _
      simp only [go_sem, seval]
    · have h7 := of_decide_eq_false h7
      rw [if_neg (fun k : t.nonce = a.nonce + (l.length : Int) ∧ 6 ≤ l.length => by omega)] at e0
      have hset : l.map TxD.dull ++ [.agg t.cellsT] = (l ++ [t]).map TxD.dull := by rw [List.map_append]; rfl
      have hsp := c_chain_spent (l ++ [t]) (by rw [List.length_append]; unfold reachBytes; simp; omega) (fun x hx => by
        rcases List.mem_append.1 hx with hx | hx
        · exact hok x hx
        · rw [List.mem_singleton] at hx; rw [hx]; exact h)
      simp only [go_sem, seval]
      refine ex_call (by exact c_tx_CopyT t h) ?_
      simp only [go_sem, seval, TxD.av, dull_eq, cellsT_len, List.length_map]
      repeat with_reducible refine And.intro (by first | omega | (simp only [List.length_cons, List.length_append, List.length_nil, List.length_map, List.length_take, List.length_drop, List.length_set]; omega)) ?_
      rw [hset]
      refine ex_call_dull (.cons (dulls_map _ _) .nil) (by exact hsp) ?_
      cases h8 : chainOk (l ++ [t])
      · rw [err 8 (by rw [e0, e1, h8]; rfl) (by decide)]
        simp only [go_sem, seval, u]
        refine finAddT (sh := false) ?_
        show resOf _ _ [.tmp 4, .tmp 5] = _
        simp only [go_sem, seval]
      · rw [good (by rw [e0, e1, h8]; rfl), e1]
        simp only [go_sem, seval, u]
        refine finAddT (sh := true) ?_
        show resOf _ _ [.tmp 4, .tmp 5] = _
        simp only [go_sem, seval]
  · have h6' := of_decide_eq_true h6
    rw [if_pos (show t.nonce < a.nonce + (l.length : Int) by omega)] at e1
    rw [if_neg (fun k : t.nonce = a.nonce + (l.length : Int) ∧ 6 ≤ l.length => by omega)] at e0
    have w3 : IntKind.i64.wrap (t.nonce - a.nonce) = (((t.nonce - a.nonce).toNat : Nat) : Int) := by rw [wi64 (by omega) (by omega)]; omega
    have hk : (t.nonce - a.nonce).toNat < l.length := by omega
    obtain ⟨k, ek⟩ : ∃ k, k = (t.nonce - a.nonce).toNat := ⟨_, rfl⟩
    rw [← ek] at e1 w3 hk
    obtain ⟨y, ey⟩ : ∃ y, l[k]? = some y := ⟨_, List.getElem?_eq_getElem hk⟩
    have hset : (l.map TxD.dull).set k (.agg t.cellsT) = (l.set k t).map TxD.dull := by rw [List.map_set]; rfl
    have hsp := c_chain_spent (l.set k t) (by rw [List.length_set]; exact hl0) (fun x hx => by
      rcases List.mem_or_eq_of_mem_set hx with hx | hx
      · exact hok x hx
      · rw [hx]; exact h)
    refine ex_draw [] [] (.quiet 0 (.quiet 1 (.quiet 2 (.quiet 3 (.quiet 4 (.quiet 5 (.quiet 6 (.quiet 7 (.quiet 8 (.quiet 9 (.quiet 10 (.quiet 11 (.quiet 12 (.quiet 13 (.fin))))))))))))))) (by kernel_rfl) ?_
    simp only [go_sem, seval, b0, h6, w1, w2, Int.toNat_natCast, List.getElem?_map, List.length_map, ep, TxD.av, TxD.cells]
    repeat with_reducible refine And.intro (by first | omega | (simp only [List.length_cons, List.length_append, List.length_nil, List.length_map, List.length_take, List.length_drop, List.length_set]; omega)) ?_
    try simp only [go_sem, seval]
    refine ex_draw [11] [] (.quiet 0 (.quiet 1 (.quiet 2 (.quiet 3 (.quiet 4 (.quiet 5 (.quiet 6 (.quiet 7 (.quiet 8 (.one 9 (.quiet 10 (.unlock (.one 11 (.fin)))))))))))))) (by kernel_rfl) ?_
    simp only [go_sem, seval, w3, Int.toNat_natCast, Int.toNat_zero, List.getElem?_map, List.length_map, ea, TxD.av, TxD.cells]
    repeat with_reducible refine And.intro (by first | omega | (simp only [List.length_cons, List.length_append, List.length_nil, List.length_map, List.length_take, List.length_drop, List.length_set]; omega)) ?_
    refine ex_call (by exact c_tx_CopyT t h) ?_
    simp only [go_sem, seval, TxD.av, dull_eq, cellsT_len, List.length_map, w3, Int.toNat_natCast, List.getElem?_map, ey]
    repeat with_reducible refine And.intro (by first | omega | (simp only [List.length_cons, List.length_append, List.length_nil, List.length_map, List.length_take, List.length_drop, List.length_set]; omega)) ?_
    try simp only [go_sem, seval, TxD.av, dull_eq, cellsT_len, List.length_map, w3, Int.toNat_natCast, List.getElem?_map, ey]
    rw [hset]
    refine ex_call_dull (.cons (dulls_map _ _) .nil) (by exact hsp) ?_
    cases h8 : chainOk (l.set k t)
    · rw [err 8 (by rw [e0, e1, h8]; rfl) (by decide)]
      simp only [go_sem, seval, u]
      refine finAddT (sh := false) ?_
      show resOf _ _ [.tmp 4, .tmp 5] = _
      simp only [go_sem, seval]
    · rw [good (by rw [e0, e1, h8]; rfl), e1]
      simp only [go_sem, seval, u]
      refine finAddT (sh := true) ?_
      show resOf _ _ [.tmp 4, .tmp 5] = _
      simp only [go_sem, seval]
theorem c_chain_AddT (l : List TxD) (t : TxD) (hl : l.length * 200 ≤ reachBytes) (hok : ∀ a ∈ l, a.ok) (h : t.ok) :
    Contract Try.prog 32 [txs l, t.av] (.tup [.sl true 21 ((if addErr l t = 0 then addOut l t else []).map TxD.dull), .int .i64 (addErr l t)]) := by
  cases e : l[0]? with
  | none =>
    obtain rfl : l = [] := by
      cases l with
      | nil => rfl
      | cons a r => simp at e
    exact c_chain_AddT_nil t h
  | some a => exact c_chain_AddT_cons l a t e hl hok h
end Go.Proofs.Ytpepfhbfooeoeaa.VA
end
section
/- Chains by the page: one more. -/
namespace Go.Proofs.Ytpepfhbfooeoeaa.VA
set_option maxRecDepth 10000
set_option linter.unusedSimpArgs false
set_option linter.unusedVariables false
set_option maxHeartbeats 8000000

theorem addOut_chain {l : List TxD} {t : TxD} (hc : ChainP l) (hv : validTx t = true) (hr : ∀ a, l[0]? = some a → t.frm = a.frm ∧ a.nonce ≤ t.nonce ∧ t.nonce ≤ a.nonce + l.length) (h6 : (addOut l t).length ≤ 6) (hs : sumCost (addOut l t) < U) : ChainP (addOut l t) := by
  cases ea : l[0]? with
  | none =>
    have e : addOut l t = [t] := by unfold addOut; rw [ea]
    rw [e] at h6 hs ⊢
    refine ⟨h6, fun i x hx => ?_, fun i a x ha hx => ?_, hs⟩
    · match i, hx with
      | 0, hx => cases hx; exact hv
    · match i, hx with
      | 0, hx => cases hx; cases ha; exact ⟨rfl, by omega⟩
  | some a =>
    obtain ⟨r1, r2, r3⟩ := hr a ea
    have e : addOut l t = if t.nonce < a.nonce + l.length then l.set (t.nonce - a.nonce).toNat t else l ++ [t] := by unfold addOut; rw [ea]
    rcases Decidable.em (t.nonce < a.nonce + (l.length : Int)) with h | h
    · rw [if_pos h] at e
      rw [e] at h6 hs ⊢
      have hk : (t.nonce - a.nonce).toNat < l.length := by omega
      have hk2 : ((t.nonce - a.nonce).toNat : Int) = t.nonce - a.nonce := by omega
      obtain ⟨k, ek⟩ : ∃ k, k = (t.nonce - a.nonce).toNat := ⟨_, rfl⟩
      rw [← ek] at hk hk2 h6 hs ⊢
      have at' : ∀ (i : Nat) x, (l.set k t)[i]? = some x → (i = k ∧ x = t) ∨ (i ≠ k ∧ l[i]? = some x) := fun i x hx => by
        rw [List.getElem?_set] at hx
        by_cases e2 : k = i
        · rw [if_pos e2, if_pos hk] at hx
          cases hx
          exact .inl ⟨e2.symm, rfl⟩
        · rw [if_neg e2] at hx
          exact .inr ⟨fun e3 => e2 e3.symm, hx⟩
      have one : ∀ (i : Nat) x, (l.set k t)[i]? = some x → validTx x = true ∧ x.frm = a.frm ∧ x.nonce = a.nonce + i := fun i x hx => by
        rcases at' i x hx with ⟨rfl, rfl⟩ | ⟨_, e3⟩
        · exact ⟨hv, r1, by omega⟩
        · exact ⟨hc.valid i x e3, (hc.link i a x ea e3).1, (hc.link i a x ea e3).2⟩
      refine ⟨h6, fun i x hx => (one i x hx).1, fun i y x hy hx => ?_, hs⟩
      have h1 := one 0 y hy
      have h2 := one i x hx
      exact ⟨h2.2.1.trans h1.2.1.symm, by omega⟩
    · rw [if_neg h] at e
      rw [e] at h6 hs ⊢
      have one : ∀ (i : Nat) x, (l ++ [t])[i]? = some x → validTx x = true ∧ x.frm = a.frm ∧ x.nonce = a.nonce + i := fun i x hx => by
        rcases Nat.lt_or_ge i l.length with h1 | h1
        · rw [List.getElem?_append_left h1] at hx
          exact ⟨hc.valid i x hx, (hc.link i a x ea hx).1, (hc.link i a x ea hx).2⟩
        · rw [List.getElem?_append_right h1] at hx
          have hi : i - l.length = 0 := by
            have := (List.getElem?_eq_some_iff.1 hx).1
            simpa using this
          rw [hi] at hx
          cases hx
          exact ⟨hv, r1, by omega⟩
      refine ⟨h6, fun i x hx => (one i x hx).1, fun i y x hy hx => ?_, hs⟩
      have h1 := one 0 y hy
      have h2 := one i x hx
      exact ⟨h2.2.1.trans h1.2.1.symm, by omega⟩
theorem c_ref14_Next (l : List TxD) (n : Int) (hc : ChainP l) : Contract Try.prog 47 [txs l, .int .i64 n] (.int .i64 (nextOf l n)) := by
  have hlen := hc.len
  refine contract_of (C := cf 17 [0, 1, 4, 7] (fun _ => [])) (cf_ok _ _ _) (fn := Try.f47) Try.func47 (by kernel_rfl) rfl (by kernel_rfl) (by simp [cf]) (plain2 (txs_plain l) (.int _ _)) (by decide) (noCell (by kernel_rfl)) ?_
  simp only [go_sem, seval, txs, List.length_map]
  refine ex_br (fun h => ?_) (fun h => ?_)
  · have hnil : l = [] := by
      have : l.length = 0 := by simpa using h
      exact List.eq_nil_of_length_eq_zero this
    subst hnil
    simp only [go_sem, seval, nextOf, List.getLast?_nil]
    refine finOne ?_ (fun _ e => by cases e)
    show resOf _ _ [.tmp 4] = _
    simp only [go_sem, seval]
  · have hpos : 0 < l.length := by
      have : ¬ l.length = 0 := by simpa using h
      omega
    obtain ⟨p, ep⟩ : ∃ p, l[l.length - 1]? = some p := ⟨_, List.getElem?_eq_getElem (by omega)⟩
    have hp := (validTx_parts (hc.valid _ p ep)).2.1
    have w1 : IntKind.i64.wrap ((l.length : Int) - 1) = ((l.length - 1 : Nat) : Int) := by rw [wi64 (by omega) (by omega)]; omega
    have w2 : IntKind.i64.wrap (p.nonce + 1) = p.nonce + 1 := wi64 (by omega) (by omega)
    have e : nextOf l n = p.nonce + 1 := by unfold nextOf; rw [List.getLast?_eq_getElem?, ep]
    simp only [go_sem, seval, w1, w2, Int.toNat_natCast, List.getElem?_map, List.length_map, ep, TxD.av, TxD.cells, e]
    repeat with_reducible refine And.intro (by first | omega | (simp only [List.length_cons, List.length_append, List.length_nil, List.length_map, List.length_take, List.length_drop, List.length_set]; omega)) ?_
    refine finOne ?_ (fun _ e => by cases e)
    show resOf _ _ [.tmp 4] = _
    simp only [go_sem, seval]
theorem c_ref14_With (l : List TxD) (t : TxD) (hc : ChainP l) (hok : ∀ a ∈ l, a.ok) (h : t.ok) (hr : ∀ a, l[0]? = some a → a.nonce ≤ t.nonce ∧ t.nonce ≤ a.nonce + l.length) : Contract Try.prog 88 [txs l, t.av] (.own false 21 ((addOut l t).map TxD.av)) := by
  have hlen := hc.len
  have hcp := c_CopyTxs l (by unfold reachBytes; omega) hok
  have hct := c_CopyTx t h
  obtain ⟨res, hres⟩ : ∃ res, res = (.own false 21 ((addOut l t).map TxD.av) : AV) := ⟨_, rfl⟩
  rw [← hres]
  unfold TxD.av TxD.cells ints strs at hct
  refine contract_of (C := cf 34 [0, 3, 4, 5, 6, 12, 22] (fun _ => [])) (cf_ok _ _ _) (fn := Try.f88) Try.func88 (by kernel_rfl) rfl (by kernel_rfl) (by simp [cf]) (plain2 (txs_plain l) t.plain) (by decide) (noCell (by kernel_rfl)) ?_
  simp only [go_sem, seval, txs, TxD.av, TxD.cells, ints, strs]
  refine ex_call (by exact hcp) ?_
  simp only [go_sem, seval, List.length_map]
  refine ex_iter [3, 5, 6] (fun i : Nat => ⟨[(3, .var 3 0), (5, .own false 21 (l.map TxD.av)), (6, .int .i64 i)], [(3, [.int .i64 t.frm, .int .i64 t.nonce, .int .u64 (lim t.tip 0), .int .u64 (lim t.tip 1), .int .u64 (lim t.tip 2), .int .u64 (lim t.tip 3), .int .u64 (lim t.cap 0), .int .u64 (lim t.cap 1), .int .u64 (lim t.cap 2), .int .u64 (lim t.cap 3), .int .u64 (lim t.bcap 0), .int .u64 (lim t.bcap 1), .int .u64 (lim t.bcap 2), .int .u64 (lim t.bcap 3), .int .u64 (lim t.value 0), .int .u64 (lim t.value 1), .int .u64 (lim t.value 2), .int .u64 (lim t.value 3), .int .i64 t.gas, .sl false 1 (t.hashes.map (AV.int .u64)), .sl false 1 (t.blobs.map AV.str)])], []⟩) (fun i => i ≤ l.length ∧ ∀ (j : Nat) x, j < i → l[j]? = some x → x.nonce ≠ t.nonce) (fun i => l.length - i) 0 ?_ ?_ ?_
  · simp only [ASt.keep, consIf, keepL, keepV, AV.isBot, List.contains_cons, List.contains_nil, Nat.reduceBEq, Bool.or_false, Bool.false_or, Bool.or_true, Bool.true_or, beq_self_eq_true, Bool.false_eq_true, ↓reduceIte, if_false, if_true]
    rfl
  · exact ⟨Nat.zero_le _, fun j x hj => by omega⟩
  · rintro m i ⟨hi, hno⟩ next
    simp only [go_sem, seval, List.length_map]
    refine ex_br (fun hb => ?_) (fun hb => ?_)
    · have hlt : i < l.length := by simpa using hb
      obtain ⟨x, ex⟩ : ∃ x, l[i]? = some x := ⟨_, List.getElem?_eq_getElem hlt⟩
      obtain ⟨a, ea⟩ : ∃ a, l[0]? = some a := ⟨_, List.getElem?_eq_getElem (by omega)⟩
      have hxa := (hc.link i a x ea ex).2
      have hra := hr a ea
      simp only [go_sem, seval]
      refine ex_draw [] [] (.quiet 0 (.quiet 1 (.quiet 2 (.quiet 3 (.quiet 5 (.quiet 6 (.one 4 (.quiet 7 (.fin))))))))) (by kernel_rfl) ?_
      simp only [go_sem, seval, List.length_map, List.getElem?_map, ex, Int.toNat_natCast, TxD.av, TxD.cells]
      repeat with_reducible refine And.intro (by first | omega | (simp only [List.length_cons, List.length_append, List.length_nil, List.length_map, List.length_take, List.length_drop, List.length_set]; omega)) ?_
      try simp only [go_sem, seval, List.length_map, List.getElem?_map, ex, Int.toNat_natCast, TxD.av, TxD.cells]
      cases he : (x.nonce == t.nonce)
      · simp only [go_sem, seval, he]
        refine next (i + 1) _ ⟨by omega, fun j y hj ey => ?_⟩ (by omega) ?_
        · rcases Nat.lt_or_ge j i with h1 | h1
          · exact hno j y h1 ey
          · obtain rfl : j = i := by omega
            rw [ex] at ey
            cases ey
            exact fun e2 => by rw [e2] at he; simp at he
        · rw [← wi64_nat i (by omega)]
          simp only [ASt.keep, consIf, keepL, keepV, AV.isBot, List.contains_cons, List.contains_nil, Nat.reduceBEq, Bool.or_false, Bool.false_or, Bool.or_true, Bool.true_or, beq_self_eq_true, Bool.false_eq_true, ↓reduceIte, if_false, if_true]
      · have he2 : x.nonce = t.nonce := by simpa using he
        have eo : addOut l t = l.set i t := by
          unfold addOut
          rw [ea]
          simp only
          rw [if_pos (by omega), show (t.nonce - a.nonce).toNat = i by omega]
        have hset : (l.map TxD.av).set i t.av = (l.set i t).map TxD.av := by rw [List.map_set]
        rw [hres, eo, ← hset]
        simp only [go_sem, seval, he]
        refine ex_call (by exact hct) ?_
        simp only [go_sem, seval, List.length_map, List.getElem?_map, ex, Int.toNat_natCast]
        repeat with_reducible refine And.intro (by first | omega | (simp only [List.length_cons, List.length_append, List.length_nil, List.length_map, List.length_take, List.length_drop, List.length_set]; omega)) ?_
        refine finOne ?_ (fun _ e => by cases e)
        show resOf _ _ [.tmp 4] = _
        simp only [go_sem, seval, TxD.av, TxD.cells, ints, strs]
    · have hge : i = l.length := by simp at hb; omega
      subst hge
      have eo : addOut l t = l ++ [t] := by
        unfold addOut
        cases ea : l[0]? with
        | none =>
          have : l = [] := by
            cases l with
            | nil => rfl
            | cons y r => simp at ea
          rw [this]; rfl
        | some a =>
          simp only
          rw [if_neg]
          intro hlt
          have hra := hr a ea
          have hk : (t.nonce - a.nonce).toNat < l.length := by omega
          obtain ⟨y, ey⟩ : ∃ y, l[(t.nonce - a.nonce).toNat]? = some y := ⟨_, List.getElem?_eq_getElem hk⟩
          have h2 := (hc.link _ a y ea ey).2
          exact hno _ y hk ey (by omega)
      rw [hres, eo, List.map_append, List.map_cons, List.map_nil]
      simp only [go_sem, seval]
      refine ex_call (by exact hct) ?_
      simp only [go_sem, seval, List.length_map]
      repeat with_reducible refine And.intro (by first | omega | (simp only [List.length_cons, List.length_append, List.length_nil, List.length_map, List.length_take, List.length_drop, List.length_set]; omega)) ?_
      refine finOne ?_ (fun _ e => by cases e)
      show resOf _ _ [.tmp 4] = _
      simp only [go_sem, seval, TxD.av, TxD.cells, ints, strs]
theorem addOut_len (l : List TxD) (t : TxD) : (addOut l t).length ≤ l.length + 1 := by
  unfold addOut
  split
  · simp
  · split
    · rw [List.length_set]; omega
    · simp
theorem addOut_ok {l : List TxD} {t : TxD} (hok : ∀ a ∈ l, a.ok) (h : t.ok) : ∀ a ∈ addOut l t, a.ok := fun a ha => by
  unfold addOut at ha
  split at ha
  · rw [List.mem_singleton] at ha; rw [ha]; exact h
  · split at ha
    · rcases List.mem_or_eq_of_mem_set ha with e | e
      · exact hok a e
      · rw [e]; exact h
    · rcases List.mem_append.1 ha with e | e
      · exact hok a e
      · rw [List.mem_singleton] at e; rw [e]; exact h
theorem addOut_valid {l : List TxD} {t : TxD} (hok : ∀ (i : Nat) a, l[i]? = some a → validTx a = true) (h : validTx t = true) : (addOut l t).all validTx = true := List.all_eq_true.2 fun a ha => by
  have hl : ∀ x ∈ l, validTx x = true := fun x hx => by
    obtain ⟨i, hi⟩ := List.getElem?_of_mem hx
    exact hok i x hi
  unfold addOut at ha
  split at ha
  · rw [List.mem_singleton] at ha; rw [ha]; exact h
  · split at ha
    · rcases List.mem_or_eq_of_mem_set ha with e | e
      · exact hl a e
      · rw [e]; exact h
    · rcases List.mem_append.1 ha with e | e
      · exact hl a e
      · rw [List.mem_singleton] at e; rw [e]; exact h
theorem c_ref14_Add_cons (l : List TxD) (a t : TxD) (ea : l[0]? = some a) (hch : chainOk l = true) (hok : ∀ a ∈ l, a.ok) (h : t.ok) (hv : validTx t = true) :
    Contract Try.prog 34 [txs l, t.av] (.tup [.sl false 21 ((if addErr l t = 0 then addOut l t else []).map TxD.av), .int .i64 (addErr l t)]) := by
  have hc := chainOk_iff.1 hch
  have hlen := hc.len
  have hpos : 0 < l.length := (List.getElem?_eq_some_iff.1 ea).1
  have b0 : decide ((l.length : Int) > 0) = true := decide_eq_true (by omega)
  have e0 : addErr l t = if chainOk l = true ∧ validTx t = true ∧ t.frm = a.frm then
      (if t.nonce < a.nonce then 9 else if a.nonce + l.length < t.nonce then 10 else if t.nonce = a.nonce + l.length ∧ 6 ≤ l.length then 2 else if chainOk (addOut l t) = true then 0 else 8) else 1 := by unfold addErr; rw [ea]
  obtain ⟨res, hres⟩ : ∃ res, res = (.tup [.sl false 21 ((if addErr l t = 0 then addOut l t else []).map TxD.av), .int .i64 (addErr l t)] : AV) := ⟨_, rfl⟩
  rw [← hres]
  have err : ∀ e : Int, addErr l t = e → e ≠ 0 → res = .tup [.sl false 21 [], .int .i64 e] := fun e he hne => by
    rw [hres, he, if_neg hne]; rfl
  have good : addErr l t = 0 → res = .tup [.sl false 21 ((addOut l t).map TxD.av), .int .i64 0] := fun he => by
    rw [hres, he, if_pos rfl]
  clear hres
  refine contract_of (C := cf 54 [0, 3, 4, 5, 6, 8, 20, 32, 39, 45, 52] (fun _ => [])) (cf_ok _ _ _) (fn := Try.f34) Try.func34 (by kernel_rfl) rfl (by kernel_rfl) (by simp [cf]) (plain2 (txs_plain l) t.plain) (by decide) (noCell (by kernel_rfl)) ?_
  simp only [go_sem, seval, txs, TxD.av, TxD.cells, ints, strs]
  refine ex_draw [] [] (.quiet 0 (.quiet 1 (.quiet 2 (.quiet 3 (.quiet 4 (.quiet 5 (.quiet 6 (.quiet 7 (.quiet 8 (.quiet 9 (.quiet 10 (.quiet 11 (.fin))))))))))))) (by kernel_rfl) ?_
  cases h3 : (a.frm != t.frm)
  case' true =>
    rw [err 1 (by rw [e0, if_neg]; rintro ⟨_, _, k⟩; rw [k] at h3; simp at h3) (by decide)]
    simp only [go_sem, seval, b0, h3, Int.toNat_zero, List.getElem?_map, List.length_map, ea, TxD.av, TxD.cells, ints, strs]
    repeat with_reducible refine And.intro (by first | omega | (simp only [List.length_cons, List.length_append, List.length_nil, List.length_map, List.length_take, List.length_drop, List.length_set]; omega)) ?_
    try simp only [go_sem, seval, h3]
    refine finAdd (sh := false) ?_
    show resOf _ _ [.tmp 4, .tmp 5] = _
    simp only [go_sem, seval]
  have h3' : t.frm = a.frm := by
    have : a.frm = t.frm := by simpa using h3
    exact this.symm
  rw [if_pos ⟨hch, hv, h3'⟩] at e0
  simp only [go_sem, seval, b0, h3, Int.toNat_zero, List.getElem?_map, List.length_map, ea, TxD.av, TxD.cells, ints, strs]
  repeat with_reducible refine And.intro (by first | omega | (simp only [List.length_cons, List.length_append, List.length_nil, List.length_map, List.length_take, List.length_drop, List.length_set]; omega)) ?_
  try simp only [go_sem, seval, h3]
  refine ex_draw [] [] (.quiet 0 (.quiet 1 (.quiet 2 (.quiet 3 (.quiet 4 (.quiet 5 (.quiet 6 (.quiet 7 (.quiet 8 (.quiet 9 (.quiet 10 (.quiet 11 (.fin))))))))))))) (by kernel_rfl) ?_
  cases h4 : decide (t.nonce < a.nonce)
  case' true =>
    have h4 := of_decide_eq_true h4
    rw [err 9 (by rw [e0, if_pos h4]) (by decide)]
    simp only [go_sem, seval, b0, decide_eq_true h4, Int.toNat_zero, List.getElem?_map, List.length_map, ea, TxD.av, TxD.cells, ints, strs]
    repeat with_reducible refine And.intro (by first | omega | (simp only [List.length_cons, List.length_append, List.length_nil, List.length_map, List.length_take, List.length_drop, List.length_set]; omega)) ?_
    try simp only [go_sem, seval, decide_eq_true h4]
    refine finAdd (sh := false) ?_
    show resOf _ _ [.tmp 4, .tmp 5] = _
    simp only [go_sem, seval]
  have h4' := of_decide_eq_false h4
  rw [if_neg h4'] at e0
  simp only [go_sem, seval, b0, h4, Int.toNat_zero, List.getElem?_map, List.length_map, ea, TxD.av, TxD.cells, ints, strs]
  repeat with_reducible refine And.intro (by first | omega | (simp only [List.length_cons, List.length_append, List.length_nil, List.length_map, List.length_take, List.length_drop, List.length_set]; omega)) ?_
  try simp only [go_sem, seval, h4]
  obtain ⟨p, ep⟩ : ∃ p, l[l.length - 1]? = some p := ⟨_, List.getElem?_eq_getElem (by omega)⟩
  have hp := hc.link (l.length - 1) a p ea ep
  have hnx : nextOf l t.nonce = a.nonce + l.length := by unfold nextOf; rw [List.getLast?_eq_getElem?, ep]; simp only; omega
  have hN := c_ref14_Next l t.nonce hc
  rw [hnx] at hN
  refine ex_draw [] [] (.quiet 0 (.quiet 1 (.quiet 2 (.quiet 3 (.quiet 4 (.one 5 (.quiet 6 (.fin)))))))) (by kernel_rfl) ?_
  simp only [go_sem, seval]
  refine ex_call (by exact hN) ?_
  cases h5 : decide (t.nonce > a.nonce + l.length)
  case' true =>
    have h5' := of_decide_eq_true h5
    rw [err 10 (by rw [e0, if_pos (by omega)]) (by decide)]
    simp only [go_sem, seval, h5]
    refine finAdd (sh := false) ?_
    show resOf _ _ [.tmp 4, .tmp 5] = _
    simp only [go_sem, seval]
  have h5' := of_decide_eq_false h5
  rw [if_neg (show ¬ a.nonce + (l.length : Int) < t.nonce by omega)] at e0
  have hr : ∀ a', l[0]? = some a' → t.frm = a'.frm ∧ a'.nonce ≤ t.nonce ∧ t.nonce ≤ a'.nonce + l.length := fun a' e => by
    rw [ea] at e
    cases e
    exact ⟨h3', by omega, by omega⟩
  have hW := c_ref14_With l t hc hok h fun a' e => (hr a' e).2
  have hal := addOut_len l t
  have hao := addOut_ok hok h
  have hav := addOut_valid hc.valid hv
  simp only [go_sem, seval, h5]
  refine ex_call (by exact hW) ?_
  simp only [go_sem, seval, List.length_map]
  cases h6 : decide (((addOut l t).length : Int) > 6)
  case' true =>
    have h6' := of_decide_eq_true h6
    have hcase : t.nonce = a.nonce + l.length ∧ 6 ≤ l.length := by
      refine ⟨?_, by omega⟩
      unfold addOut at h6'
      rw [ea] at h6'
      simp only at h6'
      split at h6'
      · rw [List.length_set] at h6'; omega
      · omega
    rw [err 2 (by rw [e0, if_pos hcase]) (by decide)]
    simp only [go_sem, seval, h6]
    refine finAdd (sh := false) ?_
    show resOf _ _ [.tmp 4, .tmp 5] = _
    simp only [go_sem, seval]
  have h6' := of_decide_eq_false h6
  have hcase : ¬ (t.nonce = a.nonce + (l.length : Int) ∧ 6 ≤ l.length) := by
    rintro ⟨k1, k2⟩
    have : addOut l t = l ++ [t] := by unfold addOut; rw [ea]; simp only; rw [if_neg (by omega)]
    rw [this] at h6'
    simp at h6'
    omega
  rw [if_neg hcase] at e0
  have hS := c_ref14_Spent (addOut l t) (by unfold reachBytes; omega) hao hav
  simp only [go_sem, seval, h6]
  refine ex_call_dull (.cons (dsl _ _ _) .nil) (by exact hS) ?_
  cases h8 : decide (sumCost (addOut l t) < U)
  · have hno : chainOk (addOut l t) = false := chainOk_no fun k => by rw [decide_eq_true k.sum] at h8; cases h8
    rw [err 8 (by rw [e0, hno]; rfl) (by decide)]
    simp only [go_sem, seval, u, h8]
    refine finAdd (sh := false) ?_
    show resOf _ _ [.tmp 4, .tmp 5] = _
    simp only [go_sem, seval]
  · have hyes : chainOk (addOut l t) = true := chainOk_yes (addOut_chain hc hv hr (by omega) (of_decide_eq_true h8))
    rw [good (by rw [e0, hyes]; rfl)]
    simp only [go_sem, seval, u, h8]
    refine finAdd (sh := true) ?_
    show resOf _ _ [.tmp 4, .tmp 5] = _
    simp only [go_sem, seval]
theorem c_ref14_Add_nil (t : TxD) (h : t.ok) (hv : validTx t = true) : Contract Try.prog 34 [txs [], t.av] (.tup [.sl false 21 ((if addErr [] t = 0 then addOut [] t else []).map TxD.av), .int .i64 (addErr [] t)]) := by
  obtain ⟨res, hres⟩ : ∃ res, res = (.tup [.sl false 21 ((if addErr [] t = 0 then addOut [] t else []).map TxD.av), .int .i64 (addErr [] t)] : AV) := ⟨_, rfl⟩
  rw [← hres]
  have hc := chainOk_iff.1 chainOk_nil
  have e0 : addErr [] t = if chainOk [t] = true then 0 else 8 := by
    show (if validTx t = true then (if chainOk [t] = true then 0 else 8) else 1 : Int) = _
    rw [if_pos hv]
  have e1 : addOut [] t = [t] := rfl
  have hN := c_ref14_Next [] t.nonce hc
  have hW := c_ref14_With [] t hc (by simp) h (fun a e => by simp at e)
  have hS := c_ref14_Spent [t] (by simp; unfold reachBytes; decide) (by simpa using h) (by simpa using hv)
  have hd : decide (t.nonce > t.nonce) = false := decide_eq_false (by omega)
  rw [show nextOf [] t.nonce = t.nonce from rfl] at hN
  rw [e1] at hW
  refine contract_of (C := cf 54 [0, 3, 4, 5, 6, 8, 20, 32, 39, 45, 52] (fun _ => [])) (cf_ok _ _ _) (fn := Try.f34) Try.func34 (by kernel_rfl) rfl (by kernel_rfl) (by simp [cf]) (plain2 (txs_plain []) t.plain) (by decide) (noCell (by kernel_rfl)) ?_
  simp only [go_sem, seval, txs, TxD.av, TxD.cells, ints, strs]
  refine ex_draw [] [] (.quiet 0 (.quiet 1 (.quiet 2 (.quiet 3 (.quiet 4 (.quiet 5 (.quiet 6 (.quiet 7 (.quiet 8 (.quiet 9 (.quiet 10 (.quiet 11 (.fin))))))))))))) (by kernel_rfl) ?_
  simp only [go_sem, seval, Int.cast_ofNat_Int]
  refine ex_draw [] [] (.quiet 0 (.quiet 1 (.quiet 2 (.quiet 3 (.quiet 4 (.quiet 5 (.quiet 6 (.quiet 7 (.quiet 8 (.quiet 9 (.quiet 10 (.quiet 11 (.fin))))))))))))) (by kernel_rfl) ?_
  simp only [go_sem, seval, Int.cast_ofNat_Int]
  refine ex_draw [] [] (.quiet 0 (.quiet 1 (.quiet 2 (.quiet 3 (.quiet 4 (.one 5 (.quiet 6 (.fin)))))))) (by kernel_rfl) ?_
  simp only [go_sem, seval, Int.cast_ofNat_Int]
  refine ex_call (by exact hN) ?_
  simp only [go_sem, seval, hd]
  refine ex_call (by exact hW) ?_
  simp only [go_sem, seval, Int.cast_ofNat_Int]
  refine ex_call_dull (.cons (dsl _ _ _) .nil) (by exact hS) ?_
  cases h8 : decide (sumCost [t] < U)
  · have hno : chainOk [t] = false := chainOk_no fun k => by rw [decide_eq_true k.sum] at h8; cases h8
    rw [hres, e0, hno, if_neg (by decide), if_neg (by decide)]
    simp only [go_sem, seval, u, h8]
    refine finAdd (sh := false) ?_
    show resOf _ _ [.tmp 4, .tmp 5] = _
    simp only [go_sem, seval]
  · have hyes : chainOk [t] = true := by
      have := addOut_chain (l := []) hc hv (fun a e => by simp at e) (by rw [e1]; exact Nat.le_of_ble_eq_true rfl) (by rw [e1]; exact of_decide_eq_true h8)
      rw [e1] at this
      exact chainOk_yes this
    rw [hres, e0, hyes, if_pos rfl, if_pos rfl, e1]
    simp only [go_sem, seval, u, h8]
    refine finAdd (sh := true) ?_
    show resOf _ _ [.tmp 4, .tmp 5] = _
    simp only [go_sem, seval]
theorem c_ref14_Add (l : List TxD) (t : TxD) (hch : chainOk l = true) (hok : ∀ a ∈ l, a.ok) (h : t.ok) (hv : validTx t = true) :
    Contract Try.prog 34 [txs l, t.av] (.tup [.sl false 21 ((if addErr l t = 0 then addOut l t else []).map TxD.av), .int .i64 (addErr l t)]) := by
  cases e : l[0]? with
  | none =>
    obtain rfl : l = [] := by
      cases l with
      | nil => rfl
      | cons a r => simp at e
    exact c_ref14_Add_nil t h hv
  | some a => exact c_ref14_Add_cons l a t e hch hok h hv
end Go.Proofs.Ytpepfhbfooeoeaa.VA
end
section
/- Functions that hand values to a loop: laws for their walks. -/
namespace Go.Proofs.Ytpepfhbfooeoeaa.VA
set_option linter.unusedVariables false
section
variable {F : Fx} {I : Imm} {own : Nat → Option Loc} {σ : ASt} {a : Act} {w : World} {C : Cfg} {K : ASt → Prop} {Q : Exit → Act → World → Prop}

theorem spo_of (hC : F.C = C) (hns : ∀ f, C.spc f = false) : F.spo := fun ⟨f, e⟩ => by rw [hC, hns f] at e; cases e
theorem reg_in (hok : CfgOk C) {id : Nat} {ops : Array Oper} (hnd : noDeferB ops = true) (hC : F.C = C) (hop : F.open) (h : RI F I own σ a w) (hw : aops C ops.toList K ops.toList σ) (hL : ¬ LetsOut Q) (hQ : ∀ a w, Post F K a w → Q .normal a w) (hns : ∀ f, C.spc f = false := by exact fun _ => rfl) :
    (Code.region id ops false).wpIn (fen none) 0 C.P Q a w := region_in (noDefer_of hnd) hL (aops_ok hC hok hop (spo_of hC hns) hQ ops.toList σ I own a w h hw)
/-- One operation of a region. -/
theorem op_in (hok : CfgOk C) {ops : List Oper} {rest : List Oper} {o : Oper} (hd : ∀ c, o.op ≠ .defer c) (hC : F.C = C) (hop : F.open) (h : RI F I own σ a w) (hw : aops C ops K [o] σ)
    (hn : ∀ a w, Post F K a w → wpListIn (fen none) 0 C.P ops.toArray Q rest a w) (hns : ∀ f, C.spc f = false := by exact fun _ => rfl) : wpListIn (fen none) 0 C.P ops.toArray Q (o :: rest) a w := by
  have hs := step_ok (Q := Q) (ops := ops.toArray) (K := K) hC hok (fun τ _ => OkLk.of_open hop (spo_of hC hns) τ o) h hw
  unfold wpListIn
  split
  · rename_i hwd
    exact Oper.wpIn_mono hn (oper_in hd (hs.1 hwd))
  · rename_i hwd
    exact ⟨fun _ _ => trivial, hn _ _ (hs.2 (by simpa using hwd))⟩
/-- A call of yield. -/
theorem yield_in {P : Program} {ops : Array Oper} {rest : List Oper} {o : Oper} (hg : o.guard = none) {x y : Operand} {T : TypeId} (hop : o.op = .call { callee := .value x, args := #[y], argTypes := #[T] })
    {l : Nat} (hx : a.eval x = .func (.yield l) #[] #[]) {R : Bool → World → Prop} (hr : RoundW P l (a.eval y) w R) (hn : ∀ b w', R b w' → wpListIn (fen none) 0 P ops Q rest (a.put o.dst (.bool b)) w') :
    wpListIn (fen none) 0 P ops Q (o :: rest) a w := by
  obtain ⟨f, tmps, assign, body, h1, h2⟩ := hr
  have hrun : (o.semAt none a.eval).run P w = .ok (.round l f tmps assign body) w := by
    rw [Oper.semAt_none]
    unfold execOp
    rw [hop]
    generalize a.eval = ρ at hx h1 ⊢
    simp [resolve, invoke, hx, go_sem, h1]
  unfold wpListIn
  rw [if_pos (by simp [Region.wanted, hg])]
  refine ⟨fun _ _ => trivial, ?_⟩
  show o.uponIn (fen none) 0 P a _ Q ((o.semAt none a.eval).run P w)
  rw [hrun]
  refine ⟨fun e => (Bool.false_ne_true e).elim, RoundIn.mono h2 fun e w' he => ?_⟩
  obtain ⟨b, rfl, hb⟩ := he
  exact hn b w' hb

/-- The base of a walk from here on: nothing that lies is turned. -/
def bare (C : Cfg) (w : World) (I : Imm) : Fx := ⟨C, w, I, fun _ => False, fun _ => false, fun _ => False, [], #[], fun _ => True⟩
theorem bare_fix (hfix : C.fix = []) {t : Nat} (e : (bare C w I).C.fix.contains t = true) : False := by
  have e : C.fix.contains t = true := e
  rw [hfix] at e
  cases e
theorem bare_open : (bare C w I).open := ⟨fun _ => rfl, fun _ h => h⟩
theorem RI.nil (hI : Imm.ok I w) (hfix : C.fix = []) (hs : a.tmps.size = C.n) (hd : a.defers = []) : RI (bare C w I) I (fun _ => none) ⟨[], [], []⟩ a w where
  st := .nil
  imm := hI
  base := Imm.leRefl I
  inew := fun _ _ _ h => .inl h
  fr := fr_refl _ _
  mko := fun _ _ => trivial
  mine := fun _ _ h => by cases h
  defs := ⟨hd, fun t e => (bare_fix hfix e).elim⟩
  size := hs
  slots := fun l x hx => by cases l <;> cases hx
  boxes := fun k cs hk => by cases hk
  quiet := fun l x hx => by cases l <;> cases hx
  lk := ⟨fun b hb => hb.elim, fun k e => by cases e⟩
/-- Temporaries that never change any more, in a later world. -/
theorem RI.fresh {F0 : Fx} {I0 : Imm} {w0 : World} (h : RI F0 I0 own σ a w0) (hn : F0.C.n = C.n) (hfix : C.fix = []) (hds : F0.ds = []) {a2 : Act} (hs : a2.tmps.size = C.n) (hd : a2.defers = []) (hle : Imm.le I0 I) (hI : Imm.ok I w) (tm : List (Nat × AV))
    (ht : ∀ t x, look tm t = some x → look σ.tmps t = some x ∧ x.isImm = true ∧ a2.tmps[t]? = a.tmps[t]?) : RI (bare C w I) I (fun _ => none) ⟨tm, [], []⟩ a2 w := by
  refine (RI.nil (a := a2) hI hfix hs hd).make bare_open tm (fun _ _ e => by cases e) (fun _ _ e => by cases e) hs ⟨hd, fun t e => (bare_fix hfix e).elim⟩ (fun k cs e => by cases e) fun t x hx => ?_
  obtain ⟨h1, h2, h3⟩ := ht t x hx
  obtain ⟨v, e1, e2⟩ := h.slots (.tmp t) x h1
  exact ⟨v, h3.trans e1, .inr (.inl ⟨h2, ((srep_imm h2).1 e2).mono (fun _ _ => trivial) hle⟩)⟩
theorem RI.rstep {I2 : Imm} {w2 : World} (h : RI (bare C w I) I2 own σ a w2) : RStep w I [] w2 I2 [] :=
  ⟨⟨h.fr.os, h.fr.tape, h.fr.output, h.fr.size, fun k hk _ => h.fr.block k hk id, h.fr.new⟩, h.base, h.imm, fun b o u e => by
    rcases h.inew b o u e with q | q | q
    · exact .inl q
    · exact .inr (.inl q)
    · exact q.elim, fun g hg => by cases hg⟩
end
end Go.Proofs.Ytpepfhbfooeoeaa.VA
end
section
/- Functions that write over the rows of what they are given: what is kept. -/
namespace Go.Proofs.Ytpepfhbfooeoeaa.VA
open Go.RowKit
set_option linter.unusedSimpArgs false
set_option linter.unusedVariables false

/-- What a cell may turn to: a value of its kind; a slice: the nil slice. -/
inductive Kin : Value → Value → Prop
  | same (v : Value) : Kin v v
  | int (k : IntKind) (a b : Int) : Kin (.int k a) (.int k b)
  | str (s t : ByteArray) : Kin (.string s) (.string t)
  | bool (a b : Bool) : Kin (.bool a) (.bool b)
  | nil (b : Option Addr) (n c : Nat) : Kin (.slice b n c) (.slice none 0 0)
/-- The cells of the blocks B are as they were, but for their kinds. -/
structure Sp (I : Imm) (B : Nat → Prop) (w : World) : Prop where
  cells : ∀ b o u, B b → I b o = some u → ∃ u', w.cell? ⟨b, o, none⟩ = some u' ∧ w.frozen? ⟨b, o, none⟩ = false ∧ Kin u u'
/-- A value as it stands now: its cells are of the kinds that they had. -/
def KinV (v v' : Value) : Prop := v.cells.size = v'.cells.size ∧ ∀ (j : Nat) u u', v.cells[j]? = some u → v'.cells[j]? = some u' → Kin u u'

theorem cells_eq {M N : Nat → Prop} {I : Imm} {e : AV} {v v' : Value} (h : AR M I e v) (h' : AR N I e v') (hc : v.cells = v'.cells) : v = v' := by
  rcases h.kind with ⟨cs, vs, rfl, rfl, _⟩ | ⟨h1, h2⟩
  · cases h' with
    | agg _ vs' => rw [show vs = vs' from hc]
  · rcases h'.kind with ⟨cs, vs', rfl, rfl, _⟩ | ⟨h1', _⟩
    · cases h; cases h1
    · rw [cells_one h1, cells_one h1'] at hc
      simpa using hc
/-- The least set of blocks that a value leans on. -/
theorem AR.least {I : Imm} {x : AV} {v : Value} (h : AR (fun _ => True) I x v) : Wide x → ∀ N : Nat → Prop, (∀ b, (∀ M, AR M I x v → M b) → (∃ o u, I b o = some u) → N b) → AR N I x v := by
  induction h with
  | bool b => exact fun _ _ _ => .bool b
  | int k n => exact fun _ _ _ => .int k n
  | str s => exact fun _ _ _ => .str s
  | fn f => exact fun hw => by cases hw
  | nilf => exact fun hw => by cases hw
  | agg cs vs hl h1 hc ih =>
    intro hw N hN
    cases hw with
    | agg _ hw =>
      refine .agg cs vs hl h1 fun j c u hj hu => ih j c u hj hu (hw c (List.mem_of_getElem? hj)) N fun b hb => hN b fun M hM => hb M ?_
      cases hM with
      | agg _ _ _ _ hM => exact hM j c u hj hu
  | slnil fr sz base cap => exact fun _ _ _ => .slnil fr sz base cap
  | sl fr sz es b o n cap hn hc vs hv hz hI _ ih =>
    intro hw N hN
    cases hw with
    | sl _ _ _ h0 hw =>
      cases es with
      | nil => subst hn; exact .slnil fr sz _ _
      | cons e0 es =>
        have hcell : ∃ o u, I b o = some u := by
          have hs := hz 0 (by simp)
          exact ⟨_, _, hI 0 0 _ (by simp) (Array.getElem?_eq_getElem (by rw [hs]; exact h0))⟩
        have inv : ∀ M, AR M I (.sl fr sz (e0 :: es)) (.slice (some ⟨b, o, none⟩) n cap) → (fr = true → M b) ∧ ∀ (i : Nat) e, (e0 :: es)[i]? = some e → AR M I e (vs i) := by
          intro M hM
          cases hM with
          | sl _ _ _ _ _ _ _ _ _ vs' hv' hz' hI' hM' =>
            refine ⟨hM', fun i e he => ?_⟩
            have hi := (List.getElem?_eq_some_iff.1 he).1
            have e1 : vs i = vs' i := by
              refine cells_eq (hv i e he) (hv' i e he) (Array.ext (by rw [hz i hi, hz' i hi]) fun j h1 h2 => ?_)
              have q1 := hI i j _ hi (Array.getElem?_eq_getElem h1)
              have q2 := hI' i j _ hi (Array.getElem?_eq_getElem h2)
              rw [q1] at q2
              exact Option.some.inj q2
            rw [e1]; exact hv' i e he
        refine .sl fr sz _ b o n cap hn hc vs (fun i e he => ih i e he (hw e (List.mem_of_getElem? he)) N fun c hb => hN c fun M hM => hb M ((inv M hM).2 i e he)) hz hI fun e => hN b (fun M hM => (inv M hM).1 e) hcell
  | ext => exact fun hw => by cases hw
  | hd => exact fun hw => by cases hw

/-- A row of the value, as it stands now. -/
theorem row_now {I : Imm} {B : Nat → Prop} {sz : Nat} {es : List AV} {u u' : Value} (h : AR B I (.sl true sz es) u) (hk : Kin u u') : ∃ base n cap, u' = .slice base n cap ∧ (n = 0 ∨ (n = es.length ∧ ∃ b o, base = some ⟨b, o, none⟩ ∧ B b ∧ ∃ vs : Nat → Value,
    (∀ (i : Nat) e, es[i]? = some e → AR B I e (vs i)) ∧ (∀ i, i < es.length → (vs i).cells.size = sz) ∧ ∀ (i j : Nat) c, i < es.length → (vs i).cells[j]? = some c → I b (o + i * sz + j) = some c)) := by
  cases h with
  | slnil fr sz base cap =>
    cases hk with
    | same => exact ⟨_, _, _, rfl, .inl rfl⟩
    | nil => exact ⟨_, _, _, rfl, .inl rfl⟩
  | sl fr sz es b o n cap hn hc vs hv hz hI hM =>
    cases hk with
    | same => exact ⟨_, _, _, rfl, .inr ⟨hn, b, o, rfl, hM rfl, vs, hv, hz, hI⟩⟩
    | nil => exact ⟨_, _, _, rfl, .inl rfl⟩

/-- Between two stores. -/
structure SpG (I : Imm) (B : Nat → Prop) (w0 w : World) : Prop where
  fr : Fr w0 w B
  sp : Sp I B w
theorem SpG.grow {I : Imm} {B : Nat → Prop} {w0 w w' : World} (h : SpG I B w0 w) (hw : Fr w w' fun _ => False) : SpG I B w0 w' where
  fr := fr_trans h.fr hw.os hw.tape hw.output hw.size (fun k hk _ => hw.block k (Nat.lt_of_lt_of_le hk h.fr.size) id) hw.new
  sp := ⟨fun b o u hb hu => by
    obtain ⟨u', h1, h2, h3⟩ := h.sp.cells b o u hb hu
    have hlt : b < w.heap.size := World.block_lt_of_cell? w _ h1
    have e := hw.block b hlt id
    exact ⟨u', by rw [World.cell?_of_block e]; exact h1, by rw [World.frozen?_of_block e]; exact h2, h3⟩⟩
theorem SpG.called {I : Imm} {B : Nat → Prop} {w0 w w' : World} (h : SpG I B w0 w) (hw : SpG I B w w') : SpG I B w0 w' where
  fr := fr_trans h.fr hw.fr.os hw.fr.tape hw.fr.output hw.fr.size (fun k hk hn => hw.fr.block k (Nat.lt_of_lt_of_le hk h.fr.size) hn) hw.fr.new
  sp := hw.sp
/-- Cells of a block of B are written over, by values of their kinds. -/
theorem SpG.write {I : Imm} {B : Nat → Prop} {w0 w : World} (h : SpG I B w0 w) {b off : Nat} {vals : List Value} (hb : B b) (hc : ∀ j, j < vals.length → (w.cell? ⟨b, off + j, none⟩).isSome = true)
    (hk : ∀ (j : Nat) u v, I b (off + j) = some u → vals[j]? = some v → Kin u v) : SpG I B w0 (w.setCells b off vals) := by
  have hW := wr_setCells w b off vals hc
  refine ⟨fr_trans h.fr hW.os hW.tape hW.output (Nat.le_of_eq hW.size.symm) (fun k hk hn => hW.block k fun e => by subst e; exact hn hb) fun k o u hu => .inl ⟨hW.dom k o u hu, hW.frz _⟩, ⟨fun b' o u hb' hu => ?_⟩⟩
  obtain ⟨u', h1, h2, h3⟩ := h.sp.cells b' o u hb' hu
  rw [hW.frz]
  by_cases e : b' = b
  · subst e
    by_cases hin : off ≤ o ∧ o < off + vals.length
    · have e1 := hW.cin (o - off) (by omega)
      rw [show off + (o - off) = o by omega] at e1
      have hlt : o - off < vals.length := by omega
      rw [e1, List.getElem?_eq_getElem hlt]
      exact ⟨_, rfl, h2, hk (o - off) u _ (by rw [show off + (o - off) = o by omega]; exact hu) (List.getElem?_eq_getElem hlt)⟩
    · rw [hW.cout o (by omega)]; exact ⟨u', h1, h2, h3⟩
  · rw [hW.cell_ne e]; exact ⟨u', h1, h2, h3⟩
/-! Loads and stores of whole elements, one step each. -/
theorem wpList_load {P : Program} {ops : Array Oper} {rest : List Oper} {o : Oper} {a : Act} {w : World} {Q : Exit → Act → World → Prop} (hgd : o.guard = none) (T : TypeId) (x : Operand) (ho : o.op = .load T x) {p : Addr} (hp : a.eval x = .pointer (some p)) {v : Value}
    (hr : (Go.loadVar T p).run P w = .ok v w) (h : wpList P ops Q rest (a.put o.dst v) w) : wpList P ops Q (o :: rest) a w :=
  wpList_plain hgd fun _ hK => by
    unfold Oper.wp execOp
    simp only [ho, Sem.run_bind, Sem.run_pure, Result.andThen_ok, run_loadAt hp hr]
    exact hK _ _ h
theorem wpList_store {P : Program} {ops : Array Oper} {rest : List Oper} {o : Oper} {a : Act} {w w' : World} {Q : Exit → Act → World → Prop} (hgd : o.guard = none) (T : TypeId) (p x : Operand) (ho : o.op = .store T p x) (hd : o.dst = none) {u v : Value} (hp : a.eval p = u) (hx : a.eval x = v)
    (hr : (Instr.storeAt T u v).run P w = .ok () w') (h : wpList P ops Q rest a w') : wpList P ops Q (o :: rest) a w :=
  wpList_plain hgd fun _ hK => by
    unfold Oper.wp execOp
    simp only [ho, Sem.run_bind, Sem.run_pure, Result.andThen_ok, hp, hx, hr]
    exact hK _ _ (by rw [hd]; exact h)
/-- What a function that writes over its argument must do, at any time, for a Spoil. -/
theorem spoil_of {P : Program} {f : FuncId} {x : AV} (hw : Wide x) (he : ∃ fn c, P.funcs[f]? = some fn ∧ (fn.name == "runtime.NumGoroutine") = false ∧ fn.body = some c)
    (h : ∀ (I : Imm) (B : Nat → Prop) (w : World) (v : Value), AR B I x v → Sp I B w → (∀ b, B b → b < w.heap.size) → Calls P f #[v] w fun e w' => e = .returned (.tuple #[]) ∧ SpG I B w w') : Spoil P f x where
  wide := hw
  enters := he
  calls I w v hI hx hz := by
    have hB := hx.least hw (fun b => (∀ M, AR M I x v → M b) ∧ ∃ o u, I b o = some u) fun b h1 h2 => ⟨h1, h2⟩
    refine (h I _ w v hB ⟨fun b o u hb hu => ⟨u, hI b o u hu, hz b hb.1 o u hu, .same u⟩⟩ fun b hb => ?_).mono fun e w' hq => ⟨hq.1, hq.2.fr⟩
    obtain ⟨o, u, hu⟩ := hb.2
    exact World.block_lt_of_cell? w _ (hI b o u hu)
end Go.Proofs.Ytpepfhbfooeoeaa.VA
end
section
/- tarnlaw0.Tx writes over a transaction's rows, and over nothing else. -/
namespace Go.Proofs.Ytpepfhbfooeoeaa.VA
open Go.RowKit
set_option linter.unusedSimpArgs false
set_option linter.unusedVariables false

/-- Row by row: what is told of a slice of cells of one kind, in blocks that may be written. -/
def RowAt (I : Imm) (B : Nat → Prop) (ok : Value → Prop) (base : Option Addr) (n : Nat) : Prop :=
  n = 0 ∨ ∃ b o, base = some ⟨b, o, none⟩ ∧ B b ∧ ∀ i, i < n → ∃ u, I b (o + i) = some u ∧ ok u
set_option maxHeartbeats 8000000 in
set_option maxRecDepth 1000000 in
theorem walk_Tx (I : Imm) (B : Nat → Prop) (w : World) (c0 c1 c2 c3 c4 c5 c6 c7 c8 c9 c10 c11 c12 c13 c14 c15 c16 c17 c18 : Value) (hb : Option Addr) (hn hc : Nat) (bb : Option Addr) (bn bc : Nat)
    (hm : hn ≤ 9223372036854775807) (bm : bn ≤ 9223372036854775807)
    (h1 : RowAt I B (fun u => ∃ n, u = .int .u64 n) hb hn) (h2 : RowAt I B (fun u => ∃ s, u = .string s) bb bn) (hs : Sp I B w) (hB : ∀ b, B b → b < w.heap.size) :
    Calls Try.prog 89 #[.agg #[c0, c1, c2, c3, c4, c5, c6, c7, c8, c9, c10, c11, c12, c13, c14, c15, c16, c17, c18, .slice hb hn hc, .slice bb bn bc]] w fun e w' => e = .returned (.tuple #[]) ∧ SpG I B w w' := by
  obtain ⟨W, hW⟩ : ∃ W : World, W = w.alloc (.cells #[c0, c1, c2, c3, c4, c5, c6, c7, c8, c9, c10, c11, c12, c13, c14, c15, c16, c17, c18, .slice hb hn hc, .slice bb bn bc] 29) := ⟨_, rfl⟩
  have hg0 : SpG I B w W := by
    rw [hW]
    exact SpG.grow ⟨fr_refl _ _, hs⟩ (fr_alloc w _ fun j u _ => World.frozen?_alloc_new w _ _ j)
  have h19 : W.cell? ⟨w.heap.size, 19, none⟩ = some (.slice hb hn hc) := by rw [hW, World.cell?_alloc_new]; rfl
  have h20 : W.cell? ⟨w.heap.size, 20, none⟩ = some (.slice bb bn bc) := by rw [hW, World.cell?_alloc_new]; rfl
  go_enter Try.func89, Try.ntmps89
  go_wp2
  rw [← hW]
  have hBk : ∀ b, B b → b ≠ w.heap.size := fun b hb e => by
    have := hB b hb
    omega
  clear hW hs hB
  obtain ⟨k0, hk0⟩ : ∃ k0, k0 = w.heap.size := ⟨_, rfl⟩
  rw [← hk0] at h19 h20 hBk ⊢
  clear hk0
  refine wp_loop_ghost (fun n a w' => ∃ (i : Nat) (x4 x5 x6 x7 x8 x9 x10 x11 x12 x13 x14 : Value), (i ≤ hn ∧ n = hn - i) ∧ a = { tmps := #[.agg #[c0, c1, c2, c3, c4, c5, c6, c7, c8, c9, c10, c11, c12, c13, c14, c15, c16, c17, c18, .slice hb hn hc, .slice bb bn bc], .pointer (some ⟨k0, 0, none⟩), .int .i64 i, undef, x4, x5, x6, x7, x8, x9, x10, x11, x12, x13, x14, undef, undef, undef, undef, undef, undef, undef, undef, undef, undef, undef], defers := [] } ∧
    SpG I B w w' ∧ w'.cell? ⟨k0, 19, none⟩ = some (.slice hb hn hc) ∧ w'.cell? ⟨k0, 20, none⟩ = some (.slice bb bn bc)) hn ⟨0, _, _, _, _, _, _, _, _, _, _, _, ⟨Nat.zero_le _, rfl⟩, rfl, hg0, h19, h20⟩ ?_
  clear hg0 h19 h20
  rintro n a w' ⟨i, x4, x5, x6, x7, x8, x9, x10, x11, x12, x13, x14, ⟨hi, hni⟩, rfl, hg, h19, h20⟩
  have A : Aside (n = hn - i) := hni
  clear hni
  rcases Nat.lt_or_ge i hn with hlt | hge
  · rcases h1 with h1 | ⟨b, o, rfl, hBb, hrow⟩
    · omega
    obtain ⟨u, hu, nn, rfl⟩ := hrow i hlt
    obtain ⟨u', q1, q2, q3⟩ := hg.sp.cells b (o + i) _ hBb hu
    have Q : Aside (I b (o + i) = some (.int .u64 nn) ∧ SpG I B w w' ∧ B b) := ⟨hu, hg, hBb⟩
    clear hu hg hrow hBb
    go_wp2
    obtain ⟨hu, hg, hBb⟩ := Q.out
    have hni := A.out
    have hne : k0 ≠ b := fun e => hBk b hBb e.symm
    refine ⟨hn - (i + 1), by omega, i + 1, _, _, _, _, _, _, _, _, _, _, _, ⟨by omega, rfl⟩, rfl, ?_, ?_, ?_⟩
    · refine hg.write (off := o + i) (vals := [.int .u64 99]) hBb (fun j hj => ?_) (fun j u v hu' hv => ?_)
      · obtain rfl : j = 0 := by simpa using hj
        rw [Nat.add_zero, q1]; rfl
      · obtain ⟨rfl, rfl⟩ := lget_one hv
        rw [Nat.add_zero, hu] at hu'
        cases hu'
        exact .int _ _ _
    · exact (World.cell?_setCells_out b [_] (o + i) w' ⟨k0, 19, none⟩ (fun e _ => absurd e hne)).trans h19
    · exact (World.cell?_setCells_out b [_] (o + i) w' ⟨k0, 20, none⟩ (fun e _ => absurd e hne)).trans h20
  · go_wp2
    clear A hge hi h19
    refine wp_loop_ghost (fun n a w' => ∃ (i : Nat) (x2 x4 x5 x6 x7 x8 x9 x10 x11 x12 x13 x14 x15 x16 x17 x18 x19 x20 x21 x22 x23 x24 x25 : Value), (i ≤ bn ∧ n = bn - i) ∧ a = { tmps := #[.agg #[c0, c1, c2, c3, c4, c5, c6, c7, c8, c9, c10, c11, c12, c13, c14, c15, c16, c17, c18, .slice hb hn hc, .slice bb bn bc], .pointer (some ⟨k0, 0, none⟩), x2, .int .i64 i, x4, x5, x6, x7, x8, x9, x10, x11, x12, x13, x14, x15, x16, x17, x18, x19, x20, x21, x22, x23, x24, x25], defers := [] } ∧
      SpG I B w w' ∧ w'.cell? ⟨k0, 20, none⟩ = some (.slice bb bn bc)) bn ⟨0, _, _, _, _, _, _, _, _, _, _, _, _, _, _, _, _, _, _, _, _, _, _, _, ⟨Nat.zero_le _, rfl⟩, rfl, hg, h20⟩ ?_
    clear hg h20
    rintro n a w' ⟨i, x2, x4, x5, x6, x7, x8, x9, x10, x11, x12, x13, x14, x15, x16, x17, x18, x19, x20, x21, x22, x23, x24, x25, ⟨hi, hni⟩, rfl, hg, h20⟩
    have A : Aside (n = bn - i) := hni
    clear hni
    rcases Nat.lt_or_ge i bn with hlt | hge
    · rcases h2 with h2 | ⟨b, o, rfl, hBb, hrow⟩
      · omega
      obtain ⟨u, hu, nn, rfl⟩ := hrow i hlt
      obtain ⟨u', q1, q2, q3⟩ := hg.sp.cells b (o + i) _ hBb hu
      have Q : Aside (I b (o + i) = some (.string nn) ∧ SpG I B w w' ∧ B b) := ⟨hu, hg, hBb⟩
      clear hu hg hrow hBb
      go_wp2
      obtain ⟨hu, hg, hBb⟩ := Q.out
      have hni := A.out
      have hne : k0 ≠ b := fun e => hBk b hBb e.symm
      refine ⟨bn - (i + 1), by omega, i + 1, _, _, _, _, _, _, _, _, _, _, _, _, _, _, _, _, _, _, _, _, _, _, _, ⟨by omega, rfl⟩, rfl, ?_, ?_⟩
      · refine hg.write (off := o + i) (vals := [.string ⟨#[63]⟩]) hBb (fun j hj => ?_) (fun j u v hu' hv => ?_)
        · obtain rfl : j = 0 := by simpa using hj
          rw [Nat.add_zero, q1]; rfl
        · obtain ⟨rfl, rfl⟩ := lget_one hv
          rw [Nat.add_zero, hu] at hu'
          cases hu'
          exact .str _ _
      · exact (World.cell?_setCells_out b [_] (o + i) w' ⟨k0, 20, none⟩ (fun e _ => absurd e hne)).trans h20
    · go_wp2
      go_end0
      exact ⟨rfl, hg⟩
theorem arr21 (a : Array Value) (h : a.size = 21) : ∃ c0 c1 c2 c3 c4 c5 c6 c7 c8 c9 c10 c11 c12 c13 c14 c15 c16 c17 c18 c19 c20, a = #[c0, c1, c2, c3, c4, c5, c6, c7, c8, c9, c10, c11, c12, c13, c14, c15, c16, c17, c18, c19, c20] := by
  rcases a with ⟨l⟩
  match l, h with
  | [c0, c1, c2, c3, c4, c5, c6, c7, c8, c9, c10, c11, c12, c13, c14, c15, c16, c17, c18, c19, c20], _ => exact ⟨c0, c1, c2, c3, c4, c5, c6, c7, c8, c9, c10, c11, c12, c13, c14, c15, c16, c17, c18, c19, c20, rfl⟩
theorem KinV.agg {vs : Array Value} {v' : Value} (h : KinV (.agg vs) v') (hs : 2 ≤ vs.size) : ∃ vs', v' = .agg vs' ∧ vs'.size = vs.size ∧ ∀ (j : Nat) u u', vs[j]? = some u → vs'[j]? = some u' → Kin u u' := by
  obtain ⟨h1, h2⟩ := h
  have h1 : vs.size = v'.cells.size := h1
  cases v' with
  | agg vs' => exact ⟨vs', rfl, h1.symm, h2⟩
  | tuple vs' => simp [Value.cells] at h1; omega
  | _ => simp [Value.cells] at h1; omega
theorem row_at {I : Imm} {B : Nat → Prop} {α : Type} {f : α → AV} {l : List α} {ok : Value → Prop} {u u' : Value} (h : AR B I (.sl true 1 (l.map f)) u) (hk : Kin u u') (hf : ∀ x v, AR B I (f x) v → v.oneCell' = true ∧ ok v) :
    ∃ base n cap, u' = .slice base n cap ∧ n ≤ l.length ∧ RowAt I B ok base n := by
  obtain ⟨base, n, cap, rfl, hr⟩ := row_now h hk
  refine ⟨base, n, cap, rfl, ?_⟩
  rcases hr with rfl | ⟨hn, b, o, rfl, hb, vs, hv, hz, hI⟩
  · exact ⟨Nat.zero_le _, .inl rfl⟩
  · rw [List.length_map] at hn
    refine ⟨by omega, .inr ⟨b, o, rfl, hb, fun i hi => ?_⟩⟩
    have hi' : i < (l.map f).length := by rw [List.length_map]; omega
    obtain ⟨x, ex⟩ : ∃ x, l[i]? = some x := ⟨_, List.getElem?_eq_getElem (by omega)⟩
    obtain ⟨q1, q2⟩ := hf x _ (hv i (f x) (by rw [List.getElem?_map, ex]; rfl))
    refine ⟨vs i, ?_, q2⟩
    have := hI i 0 (vs i) hi' (by rw [cells_one q1]; rfl)
    rw [Nat.mul_one, Nat.add_zero] at this
    exact this
/-- tarnlaw0.Tx, at a transaction as it stands now. -/
theorem calls_Tx {I : Imm} {B : Nat → Prop} {w : World} {cs : List AV} {hs : List Int} {bs : List (List UInt8)} {v v' : Value} (hx : AR B I (.agg cs) v) (hlen : cs.length = 21) (h19 : cs[19]? = some (.sl true 1 (hs.map (AV.int .u64)))) (h20 : cs[20]? = some (.sl true 1 (bs.map AV.str)))
    (hm : hs.length ≤ 9223372036854775807) (bm : bs.length ≤ 9223372036854775807) (hk : KinV v v') (hsp : Sp I B w) (hB : ∀ b, B b → b < w.heap.size) :
    Calls Try.prog 89 #[v'] w fun e w' => e = .returned (.tuple #[]) ∧ SpG I B w w' := by
  cases hx with
  | agg _ vs hl h1 hcs =>
    obtain ⟨vs', rfl, hs', hkk⟩ := hk.agg (by omega)
    obtain ⟨c0, c1, c2, c3, c4, c5, c6, c7, c8, c9, c10, c11, c12, c13, c14, c15, c16, c17, c18, c19, c20, rfl⟩ := arr21 vs' (by omega)
    have e19 := hcs 19 _ _ h19 (Array.getElem?_eq_getElem (by omega))
    have e20 := hcs 20 _ _ h20 (Array.getElem?_eq_getElem (by omega))
    obtain ⟨hb, hn, hc, rfl, n1, r1⟩ := row_at (ok := fun u => ∃ n, u = .int .u64 n) e19 (hkk 19 _ _ (Array.getElem?_eq_getElem (by omega)) rfl) (fun x v h => by cases h; exact ⟨rfl, _, rfl⟩)
    obtain ⟨bb, bn, bc, rfl, n2, r2⟩ := row_at (ok := fun u => ∃ s, u = .string s) e20 (hkk 20 _ _ (Array.getElem?_eq_getElem (by omega)) rfl) (fun x v h => by cases h; exact ⟨rfl, _, rfl⟩)
    exact walk_Tx I B w _ _ _ _ _ _ _ _ _ _ _ _ _ _ _ _ _ _ _ hb hn hc bb bn bc (by omega) (by omega) r1 r2 hsp hB
end Go.Proofs.Ytpepfhbfooeoeaa.VA
end
section
/- tarnlaw0.Txs, Limbo: they write over rows of transactions, and over nothing else. -/
namespace Go.Proofs.Ytpepfhbfooeoeaa.VA
open Go.RowKit
set_option linter.unusedSimpArgs false
set_option linter.unusedVariables false

theorem dull_wide (t : TxD) : Wide t.dull := .agg _ fun c hc => by
  simp only [List.mem_cons, List.not_mem_nil, or_false] at hc
  rcases hc with rfl | rfl | rfl | rfl | rfl | rfl | rfl | rfl | rfl | rfl | rfl | rfl | rfl | rfl | rfl | rfl | rfl | rfl | rfl | rfl | rfl <;> first | exact .int _ _ | exact .sl _ _ _ (by decide) (fun c hc => by obtain ⟨x, _, rfl⟩ := List.mem_map.1 hc; first | exact .int _ _ | exact .str _)
theorem kinV_refl (v : Value) : KinV v v := ⟨rfl, fun j u u' h1 h2 => by rw [h1] at h2; cases h2; exact .same _⟩
/-- What an element's cells may turn to. -/
inductive KZ : AV → Value → Prop
  | int (k : IntKind) (n m : Int) : KZ (.int k n) (.int k m)
  | str (s : List UInt8) (t : ByteArray) : KZ (.str s) (.string t)
  | bool (a b : Bool) : KZ (.bool a) (.bool b)
  | sl (fr : Bool) (sz : Nat) (es : List AV) : KZ (.sl fr sz es) (.slice none 0 0)
theorem KZ.kin {M : Nat → Prop} {I : Imm} {c : AV} {u z : Value} (h : KZ c z) (ha : AR M I c u) : Kin u z := by
  cases h with
  | int k n m => cases ha; exact .int _ _ _
  | str s t => cases ha; exact .str _ _
  | bool a b => cases ha; exact .bool _ _
  | sl fr sz es => cases ha <;> exact .nil _ _ _
theorem kz_nil : ∀ (j : Nat) c z, ([] : List AV)[j]? = some c → ([] : List Value)[j]? = some z → KZ c z := fun j c z h => by cases h
theorem kz_cons {x : AV} {z : Value} {xs : List AV} {zs : List Value} (h : KZ x z) (hr : ∀ (j : Nat) c z, xs[j]? = some c → zs[j]? = some z → KZ c z) : ∀ (j : Nat) c u, (x :: xs)[j]? = some c → (z :: zs)[j]? = some u → KZ c u := fun j c u hc hu => by
  cases j with
  | zero =>
    simp only [List.getElem?_cons_zero, Option.some.injEq] at hc hu
    subst hc hu; exact h
  | succ j => exact hr j c u (by simpa using hc) (by simpa using hu)
/-- The cells of an element, as they stand now. -/
theorem elem_now {I : Imm} {B : Nat → Prop} {w0 w : World} (h : SpG I B w0 w) {b off sz : Nat} {v : Value} (hb : B b) (hs : v.cells.size = sz) (hI : ∀ (j : Nat) c, v.cells[j]? = some c → I b (off + j) = some c) :
    ∃ us : List Value, us.length = sz ∧ (∀ j, j < sz → w.cell? ⟨b, off + j, none⟩ = us[j]? ∧ w.frozen? ⟨b, off + j, none⟩ = false) ∧ ∀ (j : Nat) u u', v.cells[j]? = some u → us[j]? = some u' → Kin u u' := by
  refine ⟨(List.range sz).map fun j => (w.cell? ⟨b, off + j, none⟩).getD undef, by simp, fun j hj => ?_, fun j u u' hu hu' => ?_⟩
  · obtain ⟨u', h1, h2, _⟩ := h.sp.cells b (off + j) _ hb (hI j _ (Array.getElem?_eq_getElem (by omega)))
    refine ⟨?_, h2⟩
    rw [List.getElem?_map, List.getElem?_range hj, h1]
    simp [h1]
  · have hj : j < sz := by rw [← hs]; exact (Array.getElem?_eq_some_iff.1 hu).1
    obtain ⟨u2, h1, _, h3⟩ := h.sp.cells b (off + j) u hb (hI j u hu)
    rw [List.getElem?_map, List.getElem?_range hj] at hu'
    simp only [Option.map_some, Option.some.injEq, h1, Option.getD_some] at hu'
    subst hu'; exact h3
/-- An element is written over. -/
theorem elem_write {I : Imm} {B : Nat → Prop} {w0 w : World} (h : SpG I B w0 w) {b off sz : Nat} {e : AV} {v z : Value} (hb : B b) (hv : AR B I e v) (hs : v.cells.size = sz) (hI : ∀ (j : Nat) c, v.cells[j]? = some c → I b (off + j) = some c)
    (hz : z.cells.size = sz) (hk : ∀ (j : Nat) c u, e.flat[j]? = some c → z.cells.toList[j]? = some u → KZ c u) : SpG I B w0 (w.setCells b off z.cells.toList) := by
  refine h.write hb (fun j hj => ?_) fun j u u' hu hu' => ?_
  · have hj : j < v.cells.size := by rw [hs, ← hz]; simpa using hj
    obtain ⟨u', h1, _, _⟩ := h.sp.cells b (off + j) _ hb (hI j _ (Array.getElem?_eq_getElem hj))
    rw [h1]; rfl
  · have hj : j < v.cells.size := by
      have := (List.getElem?_eq_some_iff.1 hu').1
      rw [hs, ← hz]; simpa using this
    have h1 := hI j _ (Array.getElem?_eq_getElem hj)
    rw [hu] at h1
    cases h1
    have hf : j < e.flat.length := by rw [hv.flen]; exact hj
    exact (hk j _ u' (List.getElem?_eq_getElem hf) hu').kin (hv.fcell j _ _ (List.getElem?_eq_getElem hf) (Array.getElem?_eq_getElem hj))

def zeroT : Value := .agg #[.int .i64 (-9), .int .i64 0, .int .u64 0, .int .u64 0, .int .u64 0, .int .u64 0, .int .u64 0, .int .u64 0, .int .u64 0, .int .u64 0, .int .u64 0, .int .u64 0, .int .u64 0, .int .u64 0, .int .u64 0, .int .u64 0, .int .u64 0, .int .u64 0, .int .i64 0, .slice none 0 0, .slice none 0 0]
theorem kz_tx (t : TxD) : ∀ (j : Nat) c u, t.dull.flat[j]? = some c → zeroT.cells.toList[j]? = some u → KZ c u := by
  refine kz_cons (.int _ _ _) (kz_cons (.int _ _ _) ?_)
  repeat' (first | exact kz_nil | exact KZ.int _ _ _ | exact KZ.sl _ _ _ | refine kz_cons ?_ ?_)
set_option maxHeartbeats 8000000 in
set_option maxRecDepth 1000000 in
theorem walk_Txs (I : Imm) (B : Nat → Prop) (w : World) (l : List TxD) (hok : ∀ t ∈ l, t.ok) (hl : l.length ≤ 4611686018427387904) (v : Value) (hx : AR B I (.sl true 21 (l.map TxD.dull)) v) (hs : Sp I B w) (hB : ∀ b, B b → b < w.heap.size) :
    Calls Try.prog 36 #[v] w fun e w' => e = .returned (.tuple #[]) ∧ SpG I B w w' := by
  obtain ⟨base, n, cap, rfl, hr⟩ := row_now hx (.same v)
  have hn : n ≤ 4611686018427387904 := by
    rcases hr with rfl | ⟨rfl, _⟩
    · omega
    · rw [List.length_map]; exact hl
  have hg0 : SpG I B w w := ⟨fr_refl _ _, hs⟩
  clear hx
  go_enter Try.func36, Try.ntmps36
  go_wp2
  refine wp_loop_ghost (fun m a w' => ∃ (i : Nat) (x3 x4 x5 x6 x7 x8 x9 x10 x11 x12 x13 x14 x15 x16 x17 : Value), (i ≤ n ∧ m = n - i) ∧ a = { tmps := #[.slice base n cap, undef, .int .i64 i, x3, x4, x5, x6, x7, x8, x9, x10, x11, x12, x13, x14, x15, x16, x17], defers := [] } ∧ SpG I B w w') n
    ⟨0, _, _, _, _, _, _, _, _, _, _, _, _, _, _, _, ⟨Nat.zero_le _, rfl⟩, rfl, hg0⟩ ?_
  clear hg0 hs
  rintro m a w' ⟨i, x3, x4, x5, x6, x7, x8, x9, x10, x11, x12, x13, x14, x15, x16, x17, ⟨hi, hmi⟩, rfl, hg⟩
  have A : Aside (m = n - i) := hmi
  clear hmi
  rcases Nat.lt_or_ge i n with hlt | hge
  · rcases hr with rfl | ⟨hnl, b, o, rfl, hBb, vs, hv, hz, hI⟩
    · omega
    rw [List.length_map] at hnl
    obtain ⟨t, et⟩ : ∃ t, l[i]? = some t := ⟨_, List.getElem?_eq_getElem (by omega)⟩
    have hto := hok t (List.mem_of_getElem? et)
    have hvi : AR B I t.dull (vs i) := hv i _ (by rw [List.getElem?_map, et]; rfl)
    have hzi := hz i (by rw [List.length_map]; omega)
    have hIi : ∀ (j : Nat) c, (vs i).cells[j]? = some c → I b (o + i * 21 + j) = some c := fun j c hj => hI i j c (by rw [List.length_map]; omega) hj
    obtain ⟨us, u1, u2, u3⟩ := elem_now hg hBb hzi hIi
    have hfit := (cf_ok 0 [] (fun _ => [])).fit 29 (by rfl)
    have hload : (Go.loadVar 29 ⟨b, o + i * 21, none⟩).run Try.prog w' = .ok (.agg us.toArray) w' := loadVar_agg (n := 21) (fit_isAgg hfit w') (fit_sizeOf hfit w') us u1 fun j u hj => by
      rw [Addr.add_lit, (u2 j (by rw [← u1]; exact (List.getElem?_eq_some_iff.1 hj).1)).1]; exact hj
    have h1 := hto.hashes
    have h2 := hto.blobs
    unfold reachBytes at h1 h2
    have hkv : KinV (vs i) (.agg us.toArray) := ⟨by rw [hzi]; show 21 = us.toArray.size; simp [u1], fun j u u' hu hu' => u3 j u u' hu (by simpa [Value.cells] using hu')⟩
    have hcall := calls_Tx (w := w') (hs := t.hashes) (bs := t.blobs) hvi rfl rfl rfl (by omega) (by omega) hkv hg.sp fun b hb => Nat.lt_of_lt_of_le (hB b hb) hg.fr.size
    have hst : ∀ w2, SpG I B w' w2 → (Instr.storeAt 29 (.pointer (some ⟨b, o + i * 21, none⟩)) zeroT).run Try.prog w2 = .ok () (w2.setCells b (o + i * 21) zeroT.cells.toList) := fun w2 hg2 =>
      (run_storeAt (n := 21) rfl (fit_sizeOf hfit w2) rfl (fun j hj => by
        obtain ⟨u', q1, q2, _⟩ := hg2.sp.cells b (o + i * 21 + j) _ hBb (hIi j _ (Array.getElem?_eq_getElem (by rw [hzi]; exact hj)))
        exact ⟨u', q1, q2⟩) (by decide)).1
    have Q : Aside ((SpG I B w w' ∧ B b) ∧ AR B I t.dull (vs i) ∧ (vs i).cells.size = 21 ∧ (∀ (j : Nat) c, (vs i).cells[j]? = some c → I b (o + i * 21 + j) = some c)) := ⟨⟨hg, hBb⟩, hvi, hzi, hIi⟩
    clear hg hBb hvi hzi hIi hv hz hI u1 u2 u3 hkv hnl et hto h1 h2
    go_wp2_with (first | (refine wpList_load rfl 29 _ (by rfl) (by rfl) (by exact hload) ?_) | (go_at_call 89; refine hcall.mono ?_; rintro e w2 ⟨rfl, hg2⟩) | (refine wpList_store rfl 29 _ _ (by rfl) (by rfl) (by rfl) (by rfl) (by exact hst _ (by assumption)) ?_; generalize hW2 : World.setCells _ _ _ _ = W2))
    obtain ⟨⟨hg, hBb⟩, hvi, hzi, hIi⟩ := Q.out
    have hmi := A.out
    refine ⟨n - (i + 1), by omega, i + 1, _, _, _, _, _, _, _, _, _, _, _, _, _, _, _, ⟨by omega, rfl⟩, rfl, ?_⟩
    rw [← hW2]
    exact elem_write (z := zeroT) (hg.called (by assumption)) hBb hvi hzi hIi rfl (kz_tx t)
  · go_wp2
    go_end0
    exact ⟨rfl, hg⟩
theorem dulls_wide (l : List TxD) : Wide (.sl true 21 (l.map TxD.dull)) := .sl _ _ _ (by decide) fun c hc => by
  obtain ⟨t, _, rfl⟩ := List.mem_map.1 hc
  exact dull_wide t
theorem spoil_Txs (l : List TxD) (hok : ∀ t ∈ l, t.ok) (hl : l.length ≤ 4611686018427387904) : Spoil Try.prog 36 (.sl true 21 (l.map TxD.dull)) :=
  spoil_of (dulls_wide l) ⟨_, _, Try.func36, by kernel_rfl, rfl⟩ fun I B w v hx hs hB => walk_Txs I B w l hok hl v hx hs hB
end Go.Proofs.Ytpepfhbfooeoeaa.VA
end
section
/- Laws that write over what they were told: helps. -/
namespace Go.Proofs.Ytpepfhbfooeoeaa.VA
set_option linter.unusedVariables false

noncomputable def cfs (n : Nat) (live : List Nat) (spc spl : FuncId → Bool) : Cfg := { P := Try.prog, ti := ti, n := n, live := live, ownp := fun _ => [], spc := spc, spl := spl }
theorem cfs_ok (n : Nat) (live : List Nat) (spc spl : FuncId → Bool) : CfgOk (cfs n live spc spl) := ⟨(cf_ok 0 [] (fun _ => [])).mixed, (cf_ok 0 [] (fun _ => [])).fit⟩
/-! What was put by. -/
theorem sty_agg {s : Stash} : ∀ {xs ys : List AV}, xs.length = ys.length → (∀ (j : Nat) x y, xs[j]? = some x → ys[j]? = some y → Sty s x y) → Sty s (.agg xs) (.agg ys) := fun hl h => .agg _ _ hl h
theorem sty_nil (s : Stash) : ∀ (j : Nat) x y, ([] : List AV)[j]? = some x → ([] : List AV)[j]? = some y → Sty s x y := fun j x y h => by cases h
theorem sty_cons {s : Stash} {x y : AV} {xs ys : List AV} (h : Sty s x y) (hr : ∀ (j : Nat) x y, xs[j]? = some x → ys[j]? = some y → Sty s x y) : ∀ (j : Nat) u v, (x :: xs)[j]? = some u → (y :: ys)[j]? = some v → Sty s u v := fun j u v hu hv => by
  cases j with
  | zero =>
    simp only [List.getElem?_cons_zero, Option.some.injEq] at hu hv
    subst hu hv; exact h
  | succ j => exact hr j u v (by simpa using hu) (by simpa using hv)
theorem by_nil (s : Stash) : ∀ (j : Nat) x y, ([] : List AV)[j]? = some x → ([] : List AV)[j]? = some y → By s x y := fun j x y h => by cases h
theorem by_cons {s : Stash} {x y : AV} {xs ys : List AV} (h : By s x y) (hr : ∀ (j : Nat) x y, xs[j]? = some x → ys[j]? = some y → By s x y) : ∀ (j : Nat) u v, (x :: xs)[j]? = some u → (y :: ys)[j]? = some v → By s u v := fun j u v hu hv => by
  cases j with
  | zero =>
    simp only [List.getElem?_cons_zero, Option.some.injEq] at hu hv
    subst hu hv; exact h
  | succ j => exact hr j u v (by simpa using hu) (by simpa using hv)
end Go.Proofs.Ytpepfhbfooeoeaa.VA
end
section
/- ChainAdds: the law's function answers true. -/
namespace Go.Proofs.Ytpepfhbfooeoeaa.VA
set_option maxRecDepth 10000
set_option linter.unusedSimpArgs false
set_option linter.unusedVariables false
set_option maxHeartbeats 16000000

def spc14 (f : FuncId) : Bool := Nat.beq f 32 || (Nat.beq f 36 || Nat.beq f 35)
def spl14 (f : FuncId) : Bool := Nat.beq f 36
theorem spc14_heavy : spc14 27 = false := rfl
theorem spc14_Copy : spc14 28 = false := rfl
theorem spc14_CopyTx : spc14 24 = false := rfl
theorem spc14_Chain : spc14 29 = false := rfl
theorem spc14_num : spc14 30 = false := rfl
theorem spc14_Check : spc14 31 = false := rfl
theorem spc14_Add : spc14 32 = true := rfl
theorem spc14_Tx : spc14 33 = false := rfl
theorem spc14_ref : spc14 34 = false := rfl
theorem spc14_Eq : spc14 35 = true := rfl
theorem spc14_EqTx : spc14 21 = false := rfl
theorem spc14_Txs : spc14 36 = true := rfl
theorem spc14_wakes : spc14 37 = false := rfl
theorem addErr_one {l : List TxD} {t : TxD} (h : ¬ (chainOk l = true ∧ validTx t = true)) : addErr l t = 1 := by
  unfold addErr
  split
  · rename_i e
    have : l = [] := by
      cases l with
      | nil => rfl
      | cons a r => simp at e
    rw [if_neg]
    intro k
    exact h ⟨by rw [this]; exact chainOk_nil, k⟩
  · rw [if_neg]
    intro k
    exact h ⟨k.1, k.2.1⟩
theorem addErr_len {l : List TxD} {t : TxD} (h : addErr l t = 0) : (addOut l t).length ≤ 6 := by
  unfold addErr at h
  split at h
  · rename_i e
    have e2 : addOut l t = [t] := by unfold addOut; rw [e]
    rw [e2]
    exact Nat.le_of_ble_eq_true rfl
  · split at h
    · split at h
      · cases h
      · split at h
        · cases h
        · split at h
          · cases h
          · split at h
            · rename_i k
              exact (chainOk_iff.1 k).len
            · cases h
    · cases h
theorem c_ChainAdds (p : ScriptD) (h : p.ok) : Contract Try.prog 6 [p.av] (.bool true) := by
  have hcl := h.cl
  unfold reachBytes at hcl
  have hcp0 := c_CopyTxs p.c h.cl h.c
  unfold txs TxD.av TxD.cells ints strs at hcp0
  refine contract_of (C := cfs 126 [1, 2, 3, 4, 5, 6, 7, 8, 9, 10, 11, 12, 14, 26, 45, 68, 104, 120, 122] spc14 spl14) (cfs_ok _ _ _ _) (fn := Try.f6) Try.func6 (by kernel_rfl) rfl (by kernel_rfl) (by simp [cfs]) (hspc := fun _ => rfl) (plain1 p.plain) (by decide) (noCell (by kernel_rfl)) ?_
  simp only [go_sem, seval, cfs, spc14_heavy, ScriptD.av, txs, ints]
  refine ex_call (by exact c_law14_heavy p h) ?_
  simp only [go_sem, seval, spc14_Copy]
  refine ex_br (fun hh => ?_) (fun hh => ?_)
  · simp only [go_sem, seval, spc14_Copy]
    refine finOne ?_ (fun _ e => by cases e)
    show resOf _ _ [.tmp 2] = _
    simp only [go_sem, seval]
  · simp only [go_sem, seval, spc14_Copy]
    refine ex_call (by exact hcp0) ?_
    simp only [go_sem, seval, spc14_Copy]
    refine ex_iter [1, 3, 4] (fun g : Nat × List TxD × Bool => ⟨[(1, .var 1 0), (3, .own g.2.2 21 (g.2.1.map TxD.av)), (4, .int .i64 g.1)], [(1, [.sl false 21 (p.c.map TxD.av), .sl false 21 (p.l.map TxD.av), .sl false 1 (p.n.map (AV.int .i64)), .int .u64 (lim p.bal 0), .int .u64 (lim p.bal 1), .int .u64 (lim p.bal 2), .int .u64 (lim p.bal 3)])], []⟩) (fun g => g.1 ≤ p.l.length ∧ g.2.1.length * 200 ≤ reachBytes ∧ ∀ a ∈ g.2.1, a.ok) (fun g => p.l.length - g.1) (0, p.c, false) ?_ ?_ ?_
    · simp only [ASt.keep, consIf, keepL, keepV, AV.isBot, List.contains_cons, List.contains_nil, Nat.reduceBEq, Bool.or_false, Bool.false_or, Bool.or_true, Bool.true_or, beq_self_eq_true, Bool.false_eq_true, ↓reduceIte, if_false, if_true]
      rfl
    · exact ⟨Nat.zero_le _, h.cl, h.c⟩
    · rintro n ⟨i, l, m⟩ ⟨hi, hl, hok⟩ next
      simp only [go_sem, seval, List.length_map]
      refine ex_joinB 26 (decide (i < p.l.length) && decide (i < 12)) ?_ ?_
      · repeat' (first | (refine ex_split (fun h => ?_) (fun h => ?_)) | (with_reducible refine And.intro (by omega) ?_) |
          (simp only [go_sem, seval, List.length_map]))
        all_goals (try simp only [ASt.mk.injEq, List.cons.injEq, Prod.mk.injEq, AV.bool.injEq, true_and, and_true, eq_self])
        all_goals first | (simp_all; done) | (simp_all; omega) | (rw [Bool.eq_iff_iff]; simp only [List.length_map, Bool.or_eq_true, Bool.and_eq_true, Bool.not_eq_true', Bool.not_eq_false', decide_eq_true_eq, decide_eq_false_iff_not, bne_iff_ne, beq_iff_eq, ne_eq, true_iff, iff_true, false_iff, iff_false, Bool.false_eq_true, not_false_eq_true, not_true_eq_false] at *; omega)
      simp only [go_sem, seval]
      refine ex_br (fun hc => ?_) (fun hc => ?_)
      · have hlt : i < p.l.length ∧ i < 12 := by simpa using hc
        obtain ⟨t, et⟩ : ∃ t, p.l[i]? = some t := ⟨_, List.getElem?_eq_getElem hlt.1⟩
        have hto := h.l t (List.mem_of_getElem? et)
        have hCh := c_ref14_Chain l hl hok
        have hCk := c_chain_Check l hl hok
        have hcp := c_CopyTxs l hl hok
        have hct := c_CopyTx t hto
        have hAdd := c_chain_AddT l t hl hok hto
        have hVt := c_ref7_Tx t hto
        have hEqL := c_EqTxs l l hl hl hok hok
        have hEqT := c_EqTx t t hto hto
        rw [decide_eq_true rfl] at hEqL hEqT
        simp only [go_sem, seval, spc14_heavy, spc14_Copy, spc14_CopyTx, spc14_Chain, spc14_num, spc14_Check, spc14_Add, spc14_Tx, spc14_ref, spc14_Eq, spc14_EqTx, spc14_Txs, spc14_wakes]
        refine ex_call_dull (.cons (dsl _ _ _) .nil) (by exact hCh) ?_
        simp only [go_sem, seval, spc14_heavy, spc14_Copy, spc14_CopyTx, spc14_Chain, spc14_num, spc14_Check, spc14_Add, spc14_Tx, spc14_ref, spc14_Eq, spc14_EqTx, spc14_Txs, spc14_wakes]
        refine ex_call_dull (.cons (dsl _ _ _) .nil) (by exact hCk) ?_
        simp only [go_sem, seval, spc14_heavy, spc14_Copy, spc14_CopyTx, spc14_Chain, spc14_num, spc14_Check, spc14_Add, spc14_Tx, spc14_ref, spc14_Eq, spc14_EqTx, spc14_Txs, spc14_wakes]
        refine ex_call (by exact c_law14_num _) ?_
        obtain ⟨X, hX⟩ : ∃ X, X = (if addErr l t = 0 then addOut l t else []) := ⟨_, rfl⟩
        obtain ⟨er, her⟩ : ∃ er, er = addErr l t := ⟨_, rfl⟩
        have hXok : ∀ a ∈ X, a.ok := by
          rw [hX]
          split
          · exact addOut_ok hok hto
          · simp
        have hXlen : X.length * 200 ≤ reachBytes := by
          rw [hX]
          split
          · rename_i h0
            have := addErr_len h0
            unfold reachBytes; omega
          · simp
        have hEqX := c_EqTxs X X hXlen hXlen hXok hXok
        rw [decide_eq_true rfl] at hEqX
        have hXX := c_EqTxs X [] hXlen (by decide) hXok (by simp)
        have hcX := c_CopyTxs X hXlen hXok
        have hspo := spoil_Txs X hXok (by unfold reachBytes at hXlen; omega)
        rw [← hX, ← her] at hAdd
        cases hch : chainOk l
        · have he1 : er = 1 := by rw [her]; exact addErr_one (fun k => by rw [hch] at k; exact absurd k.1 (by decide))
          have hX0 : X = [] := by rw [hX, ← her, he1]; rfl
          have hEqX0 : Contract Try.prog 35 [txs X, .sl false 21 []] (.bool true) := by rw [hX0] at hEqX ⊢; exact hEqX
          rw [he1] at hAdd
          simp only [go_sem, seval, spc14_heavy, spc14_Copy, spc14_CopyTx, spc14_Chain, spc14_num, spc14_Check, spc14_Add, spc14_Tx, spc14_ref, spc14_Eq, spc14_EqTx, spc14_Txs, spc14_wakes]
          refine ex_draw [] [8] (.quiet 0 (.quiet 2 (.quiet 3 (.quiet 4 (.quiet 5 (.quiet 6 (.two 1 (.two 7 (.one 8 (.quiet 9 (.lone 10 (.fin)))) 8 (.one 7 (.quiet 9 (.lone 10 (.fin))))) 8 (.one 1 (.one 7 (.quiet 9 (.lone 10 (.fin)))))))))))) (by kernel_rfl) ?_
          refine ex_drawn ⟨[(1, .var 1 0), (3, .own true 21 (l.map TxD.av)), (4, .int .i64 i), (5, .bool false), (6, .int .i64 1), (7, .own false 21 (l.map TxD.av)), (8, .var 8 0), (26, .bool (decide (i < p.l.length) && decide (i < 12))), (45, .bool false)], [(1, [.sl false 21 (p.c.map TxD.av), .sl false 21 (p.l.map TxD.av), .sl false 1 (p.n.map (AV.int .i64)), .int .u64 (lim p.bal 0), .int .u64 (lim p.bal 1), .int .u64 (lim p.bal 2), .int .u64 (lim p.bal 3)]), (8, [.int .i64 t.frm, .int .i64 t.nonce, .int .u64 (lim t.tip 0), .int .u64 (lim t.tip 1), .int .u64 (lim t.tip 2), .int .u64 (lim t.tip 3), .int .u64 (lim t.cap 0), .int .u64 (lim t.cap 1), .int .u64 (lim t.cap 2), .int .u64 (lim t.cap 3), .int .u64 (lim t.bcap 0), .int .u64 (lim t.bcap 1), .int .u64 (lim t.bcap 2), .int .u64 (lim t.bcap 3), .int .u64 (lim t.value 0), .int .u64 (lim t.value 1), .int .u64 (lim t.value 2), .int .u64 (lim t.value 3), .int .i64 t.gas, .sl false 1 (t.hashes.map (AV.int .u64)), .sl false 1 (t.blobs.map AV.str)])], []⟩ ?_ ?_
          · repeat' (first | (with_reducible refine And.intro ?_ ?_) | omega | (refine ex_call_dull (.cons (dsl _ _ _) .nil) (by exact hcp) ?_) | (refine ex_call (by exact hct) ?_) |
                (simp only [go_sem, seval, ex_ord_two, spc14_heavy, spc14_Copy, spc14_CopyTx, spc14_Chain, spc14_num, spc14_Check, spc14_Add, spc14_Tx, spc14_ref, spc14_Eq, spc14_EqTx, spc14_Txs, spc14_wakes, List.length_map, List.getElem?_map, et, Int.toNat_natCast, TxD.av, TxD.cells, ints, strs]))
            all_goals (try rfl)
          simp only [go_sem, seval, spc14_heavy, spc14_Copy, spc14_CopyTx, spc14_Chain, spc14_num, spc14_Check, spc14_Add, spc14_Tx, spc14_ref, spc14_Eq, spc14_EqTx, spc14_Txs, spc14_wakes, List.length_map, List.getElem?_map, et, Int.toNat_natCast, TxD.av, TxD.cells, ints, strs]
          refine ex_fork (.cons (dsl _ _ _) (.cons (.refl _) .nil)) (by exact hAdd) rfl rfl (fun z => ?_)
          simp only [go_sem, seval, spc14_heavy, spc14_Copy, spc14_CopyTx, spc14_Chain, spc14_num, spc14_Check, spc14_Add, spc14_Tx, spc14_ref, spc14_Eq, spc14_EqTx, spc14_Txs, spc14_wakes, ASt.stow, AV.stowT, AV.stowA, AV.stow]
          refine ex_draw [] [] (.quiet 0 (.quiet 2 (.one 1 (.quiet 3 (.quiet 4 (.quiet 5 (.quiet 6 (.one 7 (.quiet 8 (.quiet 9 (.quiet 10 (.quiet 11 (.quiet 12 (.one 13 (.quiet 14 (.quiet 15 (.quiet 16 (.quiet 17 (.quiet 18 (.quiet 19 (.quiet 20 (.quiet 21 (.quiet 22 (.one 23 (.quiet 24 (.quiet 25 (.fin))))))))))))))))))))))))))) (by kernel_rfl) ?_
          simp only [go_sem, seval, spc14_heavy, spc14_Copy, spc14_CopyTx, spc14_Chain, spc14_num, spc14_Check, spc14_Add, spc14_Tx, spc14_ref, spc14_Eq, spc14_EqTx, spc14_Txs, spc14_wakes]
          refine ex_call (by exact c_law14_num _) ?_
          simp only [go_sem, seval, spc14_heavy, spc14_Copy, spc14_CopyTx, spc14_Chain, spc14_num, spc14_Check, spc14_Add, spc14_Tx, spc14_ref, spc14_Eq, spc14_EqTx, spc14_Txs, spc14_wakes, bne_self_eq_false]
          refine ex_ask z (.head _) (.cons (.st (dulls_map X true)) (.cons (.dull (dsl _ _ _) rfl) .nil)) (by exact hEqX0) rfl ?_
          simp only [go_sem, seval, spc14_heavy, spc14_Copy, spc14_CopyTx, spc14_Chain, spc14_num, spc14_Check, spc14_Add, spc14_Tx, spc14_ref, spc14_Eq, spc14_EqTx, spc14_Txs, spc14_wakes]
          refine ex_plain (.cons (dsl _ _ _) (.cons (dsl _ _ _) .nil)) (by exact hEqL) ?_
          simp only [go_sem, seval, spc14_heavy, spc14_Copy, spc14_CopyTx, spc14_Chain, spc14_num, spc14_Check, spc14_Add, spc14_Tx, spc14_ref, spc14_Eq, spc14_EqTx, spc14_Txs, spc14_wakes]
          repeat with_reducible refine And.intro (by first | omega | (simp only [List.length_cons, List.length_append, List.length_nil, List.length_map, List.length_take, List.length_drop, List.length_set]; omega)) ?_
          try simp only [go_sem, seval, spc14_heavy, spc14_Copy, spc14_CopyTx, spc14_Chain, spc14_num, spc14_Check, spc14_Add, spc14_Tx, spc14_ref, spc14_Eq, spc14_EqTx, spc14_Txs, spc14_wakes, List.length_map, List.getElem?_map, et, Int.toNat_natCast, TxD.av, TxD.cells, ints, strs]
          refine ex_call (by exact hEqT) ?_
          simp only [go_sem, seval, spc14_heavy, spc14_Copy, spc14_CopyTx, spc14_Chain, spc14_num, spc14_Check, spc14_Add, spc14_Tx, spc14_ref, spc14_Eq, spc14_EqTx, spc14_Txs, spc14_wakes]
          refine ex_spoil z [] [] rfl rfl (.st _) hspo ?_
          simp only [go_sem, seval, spc14_heavy, spc14_Copy, spc14_CopyTx, spc14_Chain, spc14_num, spc14_Check, spc14_Add, spc14_Tx, spc14_ref, spc14_Eq, spc14_EqTx, spc14_Txs, spc14_wakes, ASt.unstow]
          refine ex_draw [] [] (.quiet 0 (.quiet 1 (.one 2 (.quiet 3 (.quiet 4 (.quiet 5 (.quiet 6 (.quiet 7 (.quiet 8 (.quiet 9 (.quiet 10 (.one 11 (.quiet 12 (.quiet 13 (.fin))))))))))))))) (by kernel_rfl) ?_
          simp only [go_sem, seval, spc14_heavy, spc14_Copy, spc14_CopyTx, spc14_Chain, spc14_num, spc14_Check, spc14_Add, spc14_Tx, spc14_ref, spc14_Eq, spc14_EqTx, spc14_Txs, spc14_wakes]
          refine ex_plain (.cons (dsl _ _ _) (.cons (dsl _ _ _) .nil)) (by exact hEqL) ?_
          simp only [go_sem, seval, spc14_heavy, spc14_Copy, spc14_CopyTx, spc14_Chain, spc14_num, spc14_Check, spc14_Add, spc14_Tx, spc14_ref, spc14_Eq, spc14_EqTx, spc14_Txs, spc14_wakes]
          repeat with_reducible refine And.intro (by first | omega | (simp only [List.length_cons, List.length_append, List.length_nil, List.length_map, List.length_take, List.length_drop, List.length_set]; omega)) ?_
          try simp only [go_sem, seval, spc14_heavy, spc14_Copy, spc14_CopyTx, spc14_Chain, spc14_num, spc14_Check, spc14_Add, spc14_Tx, spc14_ref, spc14_Eq, spc14_EqTx, spc14_Txs, spc14_wakes, List.length_map, List.getElem?_map, et, Int.toNat_natCast, TxD.av, TxD.cells, ints, strs]
          refine ex_call (by exact hEqT) ?_
          simp only [go_sem, seval, spc14_heavy, spc14_Copy, spc14_CopyTx, spc14_Chain, spc14_num, spc14_Check, spc14_Add, spc14_Tx, spc14_ref, spc14_Eq, spc14_EqTx, spc14_Txs, spc14_wakes]
          refine next (i + 1, l, true) _ ⟨by show i + 1 ≤ _; omega, hl, hok⟩ (by show _ - (i + 1) < _ - i; omega) ?_
          rw [← wi64_nat i (by omega)]
          simp only [ASt.keep, consIf, keepL, keepV, AV.isBot, List.contains_cons, List.contains_nil, Nat.reduceBEq, Bool.or_false, Bool.false_or, Bool.or_true, Bool.true_or, beq_self_eq_true, Bool.false_eq_true, ↓reduceIte, if_false, if_true]
        · cases hvt : validTx t
          · have he1 : er = 1 := by rw [her]; exact addErr_one (fun k => by rw [hvt] at k; exact absurd k.2 (by decide))
            have hX0 : X = [] := by rw [hX, ← her, he1]; rfl
            have hEqX0 : Contract Try.prog 35 [txs X, .sl false 21 []] (.bool true) := by rw [hX0] at hEqX ⊢; exact hEqX
            rw [he1] at hAdd
            rw [hvt] at hVt
            simp only [go_sem, seval, spc14_heavy, spc14_Copy, spc14_CopyTx, spc14_Chain, spc14_num, spc14_Check, spc14_Add, spc14_Tx, spc14_ref, spc14_Eq, spc14_EqTx, spc14_Txs, spc14_wakes]
            refine ex_draw [] [8] (.quiet 0 (.quiet 2 (.quiet 3 (.quiet 4 (.quiet 5 (.quiet 6 (.two 1 (.two 7 (.one 8 (.quiet 9 (.lone 10 (.fin)))) 8 (.one 7 (.quiet 9 (.lone 10 (.fin))))) 8 (.one 1 (.one 7 (.quiet 9 (.lone 10 (.fin)))))))))))) (by kernel_rfl) ?_
            refine ex_drawn ⟨[(1, .var 1 0), (3, .own true 21 (l.map TxD.av)), (4, .int .i64 i), (5, .bool true), (6, .int .i64 0), (7, .own false 21 (l.map TxD.av)), (8, .var 8 0), (26, .bool (decide (i < p.l.length) && decide (i < 12))), (45, .bool false)], [(1, [.sl false 21 (p.c.map TxD.av), .sl false 21 (p.l.map TxD.av), .sl false 1 (p.n.map (AV.int .i64)), .int .u64 (lim p.bal 0), .int .u64 (lim p.bal 1), .int .u64 (lim p.bal 2), .int .u64 (lim p.bal 3)]), (8, [.int .i64 t.frm, .int .i64 t.nonce, .int .u64 (lim t.tip 0), .int .u64 (lim t.tip 1), .int .u64 (lim t.tip 2), .int .u64 (lim t.tip 3), .int .u64 (lim t.cap 0), .int .u64 (lim t.cap 1), .int .u64 (lim t.cap 2), .int .u64 (lim t.cap 3), .int .u64 (lim t.bcap 0), .int .u64 (lim t.bcap 1), .int .u64 (lim t.bcap 2), .int .u64 (lim t.bcap 3), .int .u64 (lim t.value 0), .int .u64 (lim t.value 1), .int .u64 (lim t.value 2), .int .u64 (lim t.value 3), .int .i64 t.gas, .sl false 1 (t.hashes.map (AV.int .u64)), .sl false 1 (t.blobs.map AV.str)])], []⟩ ?_ ?_
            · repeat' (first | (with_reducible refine And.intro ?_ ?_) | omega | (refine ex_call_dull (.cons (dsl _ _ _) .nil) (by exact hcp) ?_) | (refine ex_call (by exact hct) ?_) |
                  (simp only [go_sem, seval, ex_ord_two, spc14_heavy, spc14_Copy, spc14_CopyTx, spc14_Chain, spc14_num, spc14_Check, spc14_Add, spc14_Tx, spc14_ref, spc14_Eq, spc14_EqTx, spc14_Txs, spc14_wakes, List.length_map, List.getElem?_map, et, Int.toNat_natCast, TxD.av, TxD.cells, ints, strs]))
              all_goals (try rfl)
            simp only [go_sem, seval, spc14_heavy, spc14_Copy, spc14_CopyTx, spc14_Chain, spc14_num, spc14_Check, spc14_Add, spc14_Tx, spc14_ref, spc14_Eq, spc14_EqTx, spc14_Txs, spc14_wakes, List.length_map, List.getElem?_map, et, Int.toNat_natCast, TxD.av, TxD.cells, ints, strs]
            refine ex_fork (.cons (dsl _ _ _) (.cons (.refl _) .nil)) (by exact hAdd) rfl rfl (fun z => ?_)
            simp only [go_sem, seval, spc14_heavy, spc14_Copy, spc14_CopyTx, spc14_Chain, spc14_num, spc14_Check, spc14_Add, spc14_Tx, spc14_ref, spc14_Eq, spc14_EqTx, spc14_Txs, spc14_wakes, ASt.stow, AV.stowT, AV.stowA, AV.stow]
            repeat with_reducible refine And.intro (by first | omega | (simp only [List.length_cons, List.length_append, List.length_nil, List.length_map, List.length_take, List.length_drop, List.length_set]; omega)) ?_
            try simp only [go_sem, seval, spc14_heavy, spc14_Copy, spc14_CopyTx, spc14_Chain, spc14_num, spc14_Check, spc14_Add, spc14_Tx, spc14_ref, spc14_Eq, spc14_EqTx, spc14_Txs, spc14_wakes, List.length_map, List.getElem?_map, et, Int.toNat_natCast, TxD.av, TxD.cells, ints, strs]
            refine ex_call (by exact hVt) ?_
            simp only [go_sem, seval, spc14_heavy, spc14_Copy, spc14_CopyTx, spc14_Chain, spc14_num, spc14_Check, spc14_Add, spc14_Tx, spc14_ref, spc14_Eq, spc14_EqTx, spc14_Txs, spc14_wakes]
            refine ex_draw [] [] (.quiet 0 (.quiet 2 (.one 1 (.quiet 3 (.quiet 4 (.quiet 5 (.quiet 6 (.one 7 (.quiet 8 (.quiet 9 (.quiet 10 (.quiet 11 (.quiet 12 (.one 13 (.quiet 14 (.quiet 15 (.quiet 16 (.quiet 17 (.quiet 18 (.quiet 19 (.quiet 20 (.quiet 21 (.quiet 22 (.one 23 (.quiet 24 (.quiet 25 (.fin))))))))))))))))))))))))))) (by kernel_rfl) ?_
            simp only [go_sem, seval, spc14_heavy, spc14_Copy, spc14_CopyTx, spc14_Chain, spc14_num, spc14_Check, spc14_Add, spc14_Tx, spc14_ref, spc14_Eq, spc14_EqTx, spc14_Txs, spc14_wakes]
            refine ex_call (by exact c_law14_num _) ?_
            simp only [go_sem, seval, spc14_heavy, spc14_Copy, spc14_CopyTx, spc14_Chain, spc14_num, spc14_Check, spc14_Add, spc14_Tx, spc14_ref, spc14_Eq, spc14_EqTx, spc14_Txs, spc14_wakes, bne_self_eq_false]
            refine ex_ask z (.head _) (.cons (.st (dulls_map X true)) (.cons (.dull (dsl _ _ _) rfl) .nil)) (by exact hEqX0) rfl ?_
            simp only [go_sem, seval, spc14_heavy, spc14_Copy, spc14_CopyTx, spc14_Chain, spc14_num, spc14_Check, spc14_Add, spc14_Tx, spc14_ref, spc14_Eq, spc14_EqTx, spc14_Txs, spc14_wakes]
            refine ex_plain (.cons (dsl _ _ _) (.cons (dsl _ _ _) .nil)) (by exact hEqL) ?_
            simp only [go_sem, seval, spc14_heavy, spc14_Copy, spc14_CopyTx, spc14_Chain, spc14_num, spc14_Check, spc14_Add, spc14_Tx, spc14_ref, spc14_Eq, spc14_EqTx, spc14_Txs, spc14_wakes]
            repeat with_reducible refine And.intro (by first | omega | (simp only [List.length_cons, List.length_append, List.length_nil, List.length_map, List.length_take, List.length_drop, List.length_set]; omega)) ?_
            try simp only [go_sem, seval, spc14_heavy, spc14_Copy, spc14_CopyTx, spc14_Chain, spc14_num, spc14_Check, spc14_Add, spc14_Tx, spc14_ref, spc14_Eq, spc14_EqTx, spc14_Txs, spc14_wakes, List.length_map, List.getElem?_map, et, Int.toNat_natCast, TxD.av, TxD.cells, ints, strs]
            refine ex_call (by exact hEqT) ?_
            simp only [go_sem, seval, spc14_heavy, spc14_Copy, spc14_CopyTx, spc14_Chain, spc14_num, spc14_Check, spc14_Add, spc14_Tx, spc14_ref, spc14_Eq, spc14_EqTx, spc14_Txs, spc14_wakes]
            refine ex_spoil z [] [] rfl rfl (.st _) hspo ?_
            simp only [go_sem, seval, spc14_heavy, spc14_Copy, spc14_CopyTx, spc14_Chain, spc14_num, spc14_Check, spc14_Add, spc14_Tx, spc14_ref, spc14_Eq, spc14_EqTx, spc14_Txs, spc14_wakes, ASt.unstow]
            refine ex_draw [] [] (.quiet 0 (.quiet 1 (.one 2 (.quiet 3 (.quiet 4 (.quiet 5 (.quiet 6 (.quiet 7 (.quiet 8 (.quiet 9 (.quiet 10 (.one 11 (.quiet 12 (.quiet 13 (.fin))))))))))))))) (by kernel_rfl) ?_
            simp only [go_sem, seval, spc14_heavy, spc14_Copy, spc14_CopyTx, spc14_Chain, spc14_num, spc14_Check, spc14_Add, spc14_Tx, spc14_ref, spc14_Eq, spc14_EqTx, spc14_Txs, spc14_wakes]
            refine ex_plain (.cons (dsl _ _ _) (.cons (dsl _ _ _) .nil)) (by exact hEqL) ?_
            simp only [go_sem, seval, spc14_heavy, spc14_Copy, spc14_CopyTx, spc14_Chain, spc14_num, spc14_Check, spc14_Add, spc14_Tx, spc14_ref, spc14_Eq, spc14_EqTx, spc14_Txs, spc14_wakes]
            repeat with_reducible refine And.intro (by first | omega | (simp only [List.length_cons, List.length_append, List.length_nil, List.length_map, List.length_take, List.length_drop, List.length_set]; omega)) ?_
            try simp only [go_sem, seval, spc14_heavy, spc14_Copy, spc14_CopyTx, spc14_Chain, spc14_num, spc14_Check, spc14_Add, spc14_Tx, spc14_ref, spc14_Eq, spc14_EqTx, spc14_Txs, spc14_wakes, List.length_map, List.getElem?_map, et, Int.toNat_natCast, TxD.av, TxD.cells, ints, strs]
            refine ex_call (by exact hEqT) ?_
            simp only [go_sem, seval, spc14_heavy, spc14_Copy, spc14_CopyTx, spc14_Chain, spc14_num, spc14_Check, spc14_Add, spc14_Tx, spc14_ref, spc14_Eq, spc14_EqTx, spc14_Txs, spc14_wakes]
            refine next (i + 1, l, true) _ ⟨by show i + 1 ≤ _; omega, hl, hok⟩ (by show _ - (i + 1) < _ - i; omega) ?_
            rw [← wi64_nat i (by omega)]
            simp only [ASt.keep, consIf, keepL, keepV, AV.isBot, List.contains_cons, List.contains_nil, Nat.reduceBEq, Bool.or_false, Bool.false_or, Bool.or_true, Bool.true_or, beq_self_eq_true, Bool.false_eq_true, ↓reduceIte, if_false, if_true]
          · have hRA := c_ref14_Add l t hch hok hto hvt
            rw [← hX, ← her] at hRA
            rw [hvt] at hVt
            simp only [go_sem, seval, spc14_heavy, spc14_Copy, spc14_CopyTx, spc14_Chain, spc14_num, spc14_Check, spc14_Add, spc14_Tx, spc14_ref, spc14_Eq, spc14_EqTx, spc14_Txs, spc14_wakes]
            refine ex_draw [] [8] (.quiet 0 (.quiet 2 (.quiet 3 (.quiet 4 (.quiet 5 (.quiet 6 (.two 1 (.two 7 (.one 8 (.quiet 9 (.lone 10 (.fin)))) 8 (.one 7 (.quiet 9 (.lone 10 (.fin))))) 8 (.one 1 (.one 7 (.quiet 9 (.lone 10 (.fin)))))))))))) (by kernel_rfl) ?_
            refine ex_drawn ⟨[(1, .var 1 0), (3, .own true 21 (l.map TxD.av)), (4, .int .i64 i), (5, .bool true), (6, .int .i64 0), (7, .own false 21 (l.map TxD.av)), (8, .var 8 0), (26, .bool (decide (i < p.l.length) && decide (i < 12))), (45, .bool false)], [(1, [.sl false 21 (p.c.map TxD.av), .sl false 21 (p.l.map TxD.av), .sl false 1 (p.n.map (AV.int .i64)), .int .u64 (lim p.bal 0), .int .u64 (lim p.bal 1), .int .u64 (lim p.bal 2), .int .u64 (lim p.bal 3)]), (8, [.int .i64 t.frm, .int .i64 t.nonce, .int .u64 (lim t.tip 0), .int .u64 (lim t.tip 1), .int .u64 (lim t.tip 2), .int .u64 (lim t.tip 3), .int .u64 (lim t.cap 0), .int .u64 (lim t.cap 1), .int .u64 (lim t.cap 2), .int .u64 (lim t.cap 3), .int .u64 (lim t.bcap 0), .int .u64 (lim t.bcap 1), .int .u64 (lim t.bcap 2), .int .u64 (lim t.bcap 3), .int .u64 (lim t.value 0), .int .u64 (lim t.value 1), .int .u64 (lim t.value 2), .int .u64 (lim t.value 3), .int .i64 t.gas, .sl false 1 (t.hashes.map (AV.int .u64)), .sl false 1 (t.blobs.map AV.str)])], []⟩ ?_ ?_
            · repeat' (first | (with_reducible refine And.intro ?_ ?_) | omega | (refine ex_call_dull (.cons (dsl _ _ _) .nil) (by exact hcp) ?_) | (refine ex_call (by exact hct) ?_) |
                  (simp only [go_sem, seval, ex_ord_two, spc14_heavy, spc14_Copy, spc14_CopyTx, spc14_Chain, spc14_num, spc14_Check, spc14_Add, spc14_Tx, spc14_ref, spc14_Eq, spc14_EqTx, spc14_Txs, spc14_wakes, List.length_map, List.getElem?_map, et, Int.toNat_natCast, TxD.av, TxD.cells, ints, strs]))
              all_goals (try rfl)
            simp only [go_sem, seval, spc14_heavy, spc14_Copy, spc14_CopyTx, spc14_Chain, spc14_num, spc14_Check, spc14_Add, spc14_Tx, spc14_ref, spc14_Eq, spc14_EqTx, spc14_Txs, spc14_wakes, List.length_map, List.getElem?_map, et, Int.toNat_natCast, TxD.av, TxD.cells, ints, strs]
            refine ex_fork (.cons (dsl _ _ _) (.cons (.refl _) .nil)) (by exact hAdd) rfl rfl (fun z => ?_)
            simp only [go_sem, seval, spc14_heavy, spc14_Copy, spc14_CopyTx, spc14_Chain, spc14_num, spc14_Check, spc14_Add, spc14_Tx, spc14_ref, spc14_Eq, spc14_EqTx, spc14_Txs, spc14_wakes, ASt.stow, AV.stowT, AV.stowA, AV.stow]
            repeat with_reducible refine And.intro (by first | omega | (simp only [List.length_cons, List.length_append, List.length_nil, List.length_map, List.length_take, List.length_drop, List.length_set]; omega)) ?_
            try simp only [go_sem, seval, spc14_heavy, spc14_Copy, spc14_CopyTx, spc14_Chain, spc14_num, spc14_Check, spc14_Add, spc14_Tx, spc14_ref, spc14_Eq, spc14_EqTx, spc14_Txs, spc14_wakes, List.length_map, List.getElem?_map, et, Int.toNat_natCast, TxD.av, TxD.cells, ints, strs]
            refine ex_call (by exact hVt) ?_
            simp only [go_sem, seval, spc14_heavy, spc14_Copy, spc14_CopyTx, spc14_Chain, spc14_num, spc14_Check, spc14_Add, spc14_Tx, spc14_ref, spc14_Eq, spc14_EqTx, spc14_Txs, spc14_wakes]
            repeat with_reducible refine And.intro (by first | omega | (simp only [List.length_cons, List.length_append, List.length_nil, List.length_map, List.length_take, List.length_drop, List.length_set]; omega)) ?_
            try simp only [go_sem, seval, spc14_heavy, spc14_Copy, spc14_CopyTx, spc14_Chain, spc14_num, spc14_Check, spc14_Add, spc14_Tx, spc14_ref, spc14_Eq, spc14_EqTx, spc14_Txs, spc14_wakes, List.length_map, List.getElem?_map, et, Int.toNat_natCast, TxD.av, TxD.cells, ints, strs]
            refine ex_call_dull (.cons (dsl _ _ _) (.cons (.refl _) .nil)) (by exact hRA) ?_
            simp only [go_sem, seval, spc14_heavy, spc14_Copy, spc14_CopyTx, spc14_Chain, spc14_num, spc14_Check, spc14_Add, spc14_Tx, spc14_ref, spc14_Eq, spc14_EqTx, spc14_Txs, spc14_wakes]
            refine ex_draw [] [] (.quiet 0 (.quiet 2 (.one 1 (.quiet 3 (.quiet 4 (.quiet 5 (.quiet 6 (.one 7 (.quiet 8 (.quiet 9 (.quiet 10 (.quiet 11 (.quiet 12 (.one 13 (.quiet 14 (.quiet 15 (.quiet 16 (.quiet 17 (.quiet 18 (.quiet 19 (.quiet 20 (.quiet 21 (.quiet 22 (.one 23 (.quiet 24 (.quiet 25 (.fin))))))))))))))))))))))))))) (by kernel_rfl) ?_
            simp only [go_sem, seval, spc14_heavy, spc14_Copy, spc14_CopyTx, spc14_Chain, spc14_num, spc14_Check, spc14_Add, spc14_Tx, spc14_ref, spc14_Eq, spc14_EqTx, spc14_Txs, spc14_wakes]
            refine ex_call (by exact c_law14_num _) ?_
            simp only [go_sem, seval, spc14_heavy, spc14_Copy, spc14_CopyTx, spc14_Chain, spc14_num, spc14_Check, spc14_Add, spc14_Tx, spc14_ref, spc14_Eq, spc14_EqTx, spc14_Txs, spc14_wakes, bne_self_eq_false]
            refine ex_ask z (.head _) (.cons (.st (dulls_map X true)) (.cons (.dull (dsl _ _ _) rfl) .nil)) (by exact hEqX) rfl ?_
            simp only [go_sem, seval, spc14_heavy, spc14_Copy, spc14_CopyTx, spc14_Chain, spc14_num, spc14_Check, spc14_Add, spc14_Tx, spc14_ref, spc14_Eq, spc14_EqTx, spc14_Txs, spc14_wakes]
            refine ex_plain (.cons (dsl _ _ _) (.cons (dsl _ _ _) .nil)) (by exact hEqL) ?_
            simp only [go_sem, seval, spc14_heavy, spc14_Copy, spc14_CopyTx, spc14_Chain, spc14_num, spc14_Check, spc14_Add, spc14_Tx, spc14_ref, spc14_Eq, spc14_EqTx, spc14_Txs, spc14_wakes]
            repeat with_reducible refine And.intro (by first | omega | (simp only [List.length_cons, List.length_append, List.length_nil, List.length_map, List.length_take, List.length_drop, List.length_set]; omega)) ?_
            try simp only [go_sem, seval, spc14_heavy, spc14_Copy, spc14_CopyTx, spc14_Chain, spc14_num, spc14_Check, spc14_Add, spc14_Tx, spc14_ref, spc14_Eq, spc14_EqTx, spc14_Txs, spc14_wakes, List.length_map, List.getElem?_map, et, Int.toNat_natCast, TxD.av, TxD.cells, ints, strs]
            refine ex_call (by exact hEqT) ?_
            simp only [go_sem, seval, spc14_heavy, spc14_Copy, spc14_CopyTx, spc14_Chain, spc14_num, spc14_Check, spc14_Add, spc14_Tx, spc14_ref, spc14_Eq, spc14_EqTx, spc14_Txs, spc14_wakes]
            refine ex_spoil z [] [] rfl rfl (.st _) hspo ?_
            simp only [go_sem, seval, spc14_heavy, spc14_Copy, spc14_CopyTx, spc14_Chain, spc14_num, spc14_Check, spc14_Add, spc14_Tx, spc14_ref, spc14_Eq, spc14_EqTx, spc14_Txs, spc14_wakes, ASt.unstow]
            refine ex_draw [] [] (.quiet 0 (.quiet 1 (.one 2 (.quiet 3 (.quiet 4 (.quiet 5 (.quiet 6 (.quiet 7 (.quiet 8 (.quiet 9 (.quiet 10 (.one 11 (.quiet 12 (.quiet 13 (.fin))))))))))))))) (by kernel_rfl) ?_
            simp only [go_sem, seval, spc14_heavy, spc14_Copy, spc14_CopyTx, spc14_Chain, spc14_num, spc14_Check, spc14_Add, spc14_Tx, spc14_ref, spc14_Eq, spc14_EqTx, spc14_Txs, spc14_wakes]
            refine ex_plain (.cons (dsl _ _ _) (.cons (dsl _ _ _) .nil)) (by exact hEqL) ?_
            simp only [go_sem, seval, spc14_heavy, spc14_Copy, spc14_CopyTx, spc14_Chain, spc14_num, spc14_Check, spc14_Add, spc14_Tx, spc14_ref, spc14_Eq, spc14_EqTx, spc14_Txs, spc14_wakes]
            repeat with_reducible refine And.intro (by first | omega | (simp only [List.length_cons, List.length_append, List.length_nil, List.length_map, List.length_take, List.length_drop, List.length_set]; omega)) ?_
            try simp only [go_sem, seval, spc14_heavy, spc14_Copy, spc14_CopyTx, spc14_Chain, spc14_num, spc14_Check, spc14_Add, spc14_Tx, spc14_ref, spc14_Eq, spc14_EqTx, spc14_Txs, spc14_wakes, List.length_map, List.getElem?_map, et, Int.toNat_natCast, TxD.av, TxD.cells, ints, strs]
            refine ex_call (by exact hEqT) ?_
            simp only [go_sem, seval, spc14_heavy, spc14_Copy, spc14_CopyTx, spc14_Chain, spc14_num, spc14_Check, spc14_Add, spc14_Tx, spc14_ref, spc14_Eq, spc14_EqTx, spc14_Txs, spc14_wakes]
            refine ex_br (fun hz => ?_) (fun hz => ?_)
            · simp only [go_sem, seval, spc14_heavy, spc14_Copy, spc14_CopyTx, spc14_Chain, spc14_num, spc14_Check, spc14_Add, spc14_Tx, spc14_ref, spc14_Eq, spc14_EqTx, spc14_Txs, spc14_wakes]
              refine ex_call (by exact hcX) ?_
              simp only [go_sem, seval, spc14_heavy, spc14_Copy, spc14_CopyTx, spc14_Chain, spc14_num, spc14_Check, spc14_Add, spc14_Tx, spc14_ref, spc14_Eq, spc14_EqTx, spc14_Txs, spc14_wakes]
              refine next (i + 1, X, false) _ ⟨by show i + 1 ≤ _; omega, hXlen, hXok⟩ (by show _ - (i + 1) < _ - i; omega) ?_
              rw [← wi64_nat i (by omega)]
              simp only [ASt.keep, consIf, keepL, keepV, AV.isBot, List.contains_cons, List.contains_nil, Nat.reduceBEq, Bool.or_false, Bool.false_or, Bool.or_true, Bool.true_or, beq_self_eq_true, Bool.false_eq_true, ↓reduceIte, if_false, if_true]
            · simp only [go_sem, seval, spc14_heavy, spc14_Copy, spc14_CopyTx, spc14_Chain, spc14_num, spc14_Check, spc14_Add, spc14_Tx, spc14_ref, spc14_Eq, spc14_EqTx, spc14_Txs, spc14_wakes]
              refine next (i + 1, l, true) _ ⟨by show i + 1 ≤ _; omega, hl, hok⟩ (by show _ - (i + 1) < _ - i; omega) ?_
              rw [← wi64_nat i (by omega)]
              simp only [ASt.keep, consIf, keepL, keepV, AV.isBot, List.contains_cons, List.contains_nil, Nat.reduceBEq, Bool.or_false, Bool.false_or, Bool.or_true, Bool.true_or, beq_self_eq_true, Bool.false_eq_true, ↓reduceIte, if_false, if_true]
      · simp only [go_sem, seval, spc14_heavy, spc14_Copy, spc14_CopyTx, spc14_Chain, spc14_num, spc14_Check, spc14_Add, spc14_Tx, spc14_ref, spc14_Eq, spc14_EqTx, spc14_Txs, spc14_wakes]
        refine ex_call (by exact c_law14_wakes) ?_
        simp only [go_sem, seval]
        refine finOne ?_ (fun _ e => by cases e)
        show resOf _ _ [.tmp 2] = _
        simp only [go_sem, seval]
theorem law_ChainAdds (x : AV) (h : Ty ti 49 x) : Contract Try.prog 6 [x] (.bool true) := by
  obtain ⟨p, rfl, hp⟩ := ty_script h
  exact c_ChainAdds p hp
end Go.Proofs.Ytpepfhbfooeoeaa.VA
end
section
/- Chains cut: the parts are of new memory alone. -/
namespace Go.Proofs.Ytpepfhbfooeoeaa.VA
set_option maxRecDepth 10000
set_option linter.unusedSimpArgs false
set_option linter.unusedVariables false
set_option maxHeartbeats 16000000

theorem c_chain_CutT (l : List TxD) (n : Int) (hl : l.length * 200 ≤ reachBytes) (hok : ∀ a ∈ l, a.ok) :
    Contract Try.prog 42 [txs l, .int .i64 n] (.tup [.sl true 21 ((if chainOk l = true then l.take (belowN l n) else []).map TxD.dull), .int .i64 (if chainOk l = true then 0 else 1)]) := by
  refine contract_of (C := cf 18 [0, 1, 4, 5, 6, 10] (fun _ => [])) (cf_ok _ _ _) (fn := Try.f42) Try.func42 (by kernel_rfl) rfl (by kernel_rfl) (by simp [cf]) (plain2 (txs_plain l) (.int _ _)) (by decide) (noCell (by kernel_rfl)) ?_
  have hk := belowN_le l n
  simp only [go_sem, ↓reduceIte, Nat.reduceLT, Nat.reduceLeDiff, Nat.reduceAdd, Nat.reduceSub, Nat.reduceMul, Nat.reduceEqDiff, Nat.reduceBEq, Nat.reduceMod, Nat.reduceDiv, Int.reduceToNat, reduceCtorEq, Int.reduceLT, Int.reduceLE, Int.reduceGT, Int.reduceGE, Int.reduceAdd, Int.reduceSub, Int.reduceMul, Int.reduceNeg, Int.reduceEq, Int.reduceNe, Int.reduceBNe, Int.reduceBEq, Int.reduceDiv, txs]
  refine ex_call (by exact c_chain_Check l hl hok) ?_
  cases h : chainOk l
  · simp only [go_sem, ↓reduceIte, Nat.reduceLT, Nat.reduceLeDiff, Nat.reduceAdd, Nat.reduceSub, Nat.reduceMul, Nat.reduceEqDiff, Nat.reduceBEq, Nat.reduceMod, Nat.reduceDiv, Int.reduceToNat, reduceCtorEq, Int.reduceLT, Int.reduceLE, Int.reduceGT, Int.reduceGE, Int.reduceAdd, Int.reduceSub, Int.reduceMul, Int.reduceNeg, Int.reduceEq, Int.reduceNe, Int.reduceBNe, Int.reduceBEq, Int.reduceDiv]
    refine finAddT (sh := false) ?_
    show resOf _ _ [.tmp 4, .tmp 5] = _
    simp only [go_sem, ↓reduceIte, Nat.reduceLT, Nat.reduceLeDiff, Nat.reduceAdd, Nat.reduceSub, Nat.reduceMul, Nat.reduceEqDiff, Nat.reduceBEq, Nat.reduceMod, Nat.reduceDiv, Int.reduceToNat, reduceCtorEq, Int.reduceLT, Int.reduceLE, Int.reduceGT, Int.reduceGE, Int.reduceAdd, Int.reduceSub, Int.reduceMul, Int.reduceNeg, Int.reduceEq, Int.reduceNe, Int.reduceBNe, Int.reduceBEq, Int.reduceDiv]
  · simp only [go_sem, ↓reduceIte, Nat.reduceLT, Nat.reduceLeDiff, Nat.reduceAdd, Nat.reduceSub, Nat.reduceMul, Nat.reduceEqDiff, Nat.reduceBEq, Nat.reduceMod, Nat.reduceDiv, Int.reduceToNat, reduceCtorEq, Int.reduceLT, Int.reduceLE, Int.reduceGT, Int.reduceGE, Int.reduceAdd, Int.reduceSub, Int.reduceMul, Int.reduceNeg, Int.reduceEq, Int.reduceNe, Int.reduceBNe, Int.reduceBEq, Int.reduceDiv]
    refine ex_call (by exact c_below l n hl) ?_
    simp only [go_sem, ↓reduceIte, Nat.reduceLT, Nat.reduceLeDiff, Nat.reduceAdd, Nat.reduceSub, Nat.reduceMul, Nat.reduceEqDiff, Nat.reduceBEq, Nat.reduceMod, Nat.reduceDiv, Int.reduceToNat, reduceCtorEq, Int.reduceLT, Int.reduceLE, Int.reduceGT, Int.reduceGE, Int.reduceAdd, Int.reduceSub, Int.reduceMul, Int.reduceNeg, Int.reduceEq, Int.reduceNe, Int.reduceBNe, Int.reduceBEq, Int.reduceDiv, List.length_map, Int.toNat_natCast, Nat.sub_zero, ← List.map_take]
    repeat with_reducible refine And.intro (by first | omega | (simp only [List.length_cons, List.length_append, List.length_nil, List.length_map, List.length_take, List.length_drop, List.length_set]; omega)) ?_
    refine ex_call (by exact c_tx_CopiesT (l.take (belowN l n)) (len_take hl) (ok_take hok)) ?_
    simp only [go_sem, ↓reduceIte, Nat.reduceLT, Nat.reduceLeDiff, Nat.reduceAdd, Nat.reduceSub, Nat.reduceMul, Nat.reduceEqDiff, Nat.reduceBEq, Nat.reduceMod, Nat.reduceDiv, Int.reduceToNat, reduceCtorEq, Int.reduceLT, Int.reduceLE, Int.reduceGT, Int.reduceGE, Int.reduceAdd, Int.reduceSub, Int.reduceMul, Int.reduceNeg, Int.reduceEq, Int.reduceNe, Int.reduceBNe, Int.reduceBEq, Int.reduceDiv]
    refine finAddT (sh := false) ?_
    show resOf _ _ [.tmp 4, .tmp 5] = _
    simp only [go_sem, ↓reduceIte, Nat.reduceLT, Nat.reduceLeDiff, Nat.reduceAdd, Nat.reduceSub, Nat.reduceMul, Nat.reduceEqDiff, Nat.reduceBEq, Nat.reduceMod, Nat.reduceDiv, Int.reduceToNat, reduceCtorEq, Int.reduceLT, Int.reduceLE, Int.reduceGT, Int.reduceGE, Int.reduceAdd, Int.reduceSub, Int.reduceMul, Int.reduceNeg, Int.reduceEq, Int.reduceNe, Int.reduceBNe, Int.reduceBEq, Int.reduceDiv]
theorem c_chain_FromT (l : List TxD) (n : Int) (hl : l.length * 200 ≤ reachBytes) (hok : ∀ a ∈ l, a.ok) :
    Contract Try.prog 43 [txs l, .int .i64 n] (.tup [.sl true 21 ((if chainOk l = true then l.drop (belowN l n) else []).map TxD.dull), .int .i64 (if chainOk l = true then 0 else 1)]) := by
  refine contract_of (C := cf 18 [0, 1, 4, 5, 6, 10] (fun _ => [])) (cf_ok _ _ _) (fn := Try.f43) Try.func43 (by kernel_rfl) rfl (by kernel_rfl) (by simp [cf]) (plain2 (txs_plain l) (.int _ _)) (by decide) (noCell (by kernel_rfl)) ?_
  have hk := belowN_le l n
  have ht : (l.drop (belowN l n)).take (l.length - belowN l n) = l.drop (belowN l n) := List.take_of_length_le (by rw [List.length_drop]; omega)
  simp only [go_sem, ↓reduceIte, Nat.reduceLT, Nat.reduceLeDiff, Nat.reduceAdd, Nat.reduceSub, Nat.reduceMul, Nat.reduceEqDiff, Nat.reduceBEq, Nat.reduceMod, Nat.reduceDiv, Int.reduceToNat, reduceCtorEq, Int.reduceLT, Int.reduceLE, Int.reduceGT, Int.reduceGE, Int.reduceAdd, Int.reduceSub, Int.reduceMul, Int.reduceNeg, Int.reduceEq, Int.reduceNe, Int.reduceBNe, Int.reduceBEq, Int.reduceDiv, txs]
  refine ex_call (by exact c_chain_Check l hl hok) ?_
  cases h : chainOk l
  · simp only [go_sem, ↓reduceIte, Nat.reduceLT, Nat.reduceLeDiff, Nat.reduceAdd, Nat.reduceSub, Nat.reduceMul, Nat.reduceEqDiff, Nat.reduceBEq, Nat.reduceMod, Nat.reduceDiv, Int.reduceToNat, reduceCtorEq, Int.reduceLT, Int.reduceLE, Int.reduceGT, Int.reduceGE, Int.reduceAdd, Int.reduceSub, Int.reduceMul, Int.reduceNeg, Int.reduceEq, Int.reduceNe, Int.reduceBNe, Int.reduceBEq, Int.reduceDiv]
    refine finAddT (sh := false) ?_
    show resOf _ _ [.tmp 4, .tmp 5] = _
    simp only [go_sem, ↓reduceIte, Nat.reduceLT, Nat.reduceLeDiff, Nat.reduceAdd, Nat.reduceSub, Nat.reduceMul, Nat.reduceEqDiff, Nat.reduceBEq, Nat.reduceMod, Nat.reduceDiv, Int.reduceToNat, reduceCtorEq, Int.reduceLT, Int.reduceLE, Int.reduceGT, Int.reduceGE, Int.reduceAdd, Int.reduceSub, Int.reduceMul, Int.reduceNeg, Int.reduceEq, Int.reduceNe, Int.reduceBNe, Int.reduceBEq, Int.reduceDiv]
  · simp only [go_sem, ↓reduceIte, Nat.reduceLT, Nat.reduceLeDiff, Nat.reduceAdd, Nat.reduceSub, Nat.reduceMul, Nat.reduceEqDiff, Nat.reduceBEq, Nat.reduceMod, Nat.reduceDiv, Int.reduceToNat, reduceCtorEq, Int.reduceLT, Int.reduceLE, Int.reduceGT, Int.reduceGE, Int.reduceAdd, Int.reduceSub, Int.reduceMul, Int.reduceNeg, Int.reduceEq, Int.reduceNe, Int.reduceBNe, Int.reduceBEq, Int.reduceDiv]
    refine ex_call (by exact c_below l n hl) ?_
    simp only [go_sem, ↓reduceIte, Nat.reduceLT, Nat.reduceLeDiff, Nat.reduceAdd, Nat.reduceSub, Nat.reduceMul, Nat.reduceEqDiff, Nat.reduceBEq, Nat.reduceMod, Nat.reduceDiv, Int.reduceToNat, reduceCtorEq, Int.reduceLT, Int.reduceLE, Int.reduceGT, Int.reduceGE, Int.reduceAdd, Int.reduceSub, Int.reduceMul, Int.reduceNeg, Int.reduceEq, Int.reduceNe, Int.reduceBNe, Int.reduceBEq, Int.reduceDiv, List.length_map, Int.toNat_natCast, Nat.sub_zero, ← List.map_take, ← List.map_drop, ht]
    repeat with_reducible refine And.intro (by first | omega | (simp only [List.length_cons, List.length_append, List.length_nil, List.length_map, List.length_take, List.length_drop, List.length_set]; omega)) ?_
    refine ex_call (by exact c_tx_CopiesT (l.drop (belowN l n)) (len_drop hl) (ok_drop hok)) ?_
    simp only [go_sem, ↓reduceIte, Nat.reduceLT, Nat.reduceLeDiff, Nat.reduceAdd, Nat.reduceSub, Nat.reduceMul, Nat.reduceEqDiff, Nat.reduceBEq, Nat.reduceMod, Nat.reduceDiv, Int.reduceToNat, reduceCtorEq, Int.reduceLT, Int.reduceLE, Int.reduceGT, Int.reduceGE, Int.reduceAdd, Int.reduceSub, Int.reduceMul, Int.reduceNeg, Int.reduceEq, Int.reduceNe, Int.reduceBNe, Int.reduceBEq, Int.reduceDiv]
    refine finAddT (sh := false) ?_
    show resOf _ _ [.tmp 4, .tmp 5] = _
    simp only [go_sem, ↓reduceIte, Nat.reduceLT, Nat.reduceLeDiff, Nat.reduceAdd, Nat.reduceSub, Nat.reduceMul, Nat.reduceEqDiff, Nat.reduceBEq, Nat.reduceMod, Nat.reduceDiv, Int.reduceToNat, reduceCtorEq, Int.reduceLT, Int.reduceLE, Int.reduceGT, Int.reduceGE, Int.reduceAdd, Int.reduceSub, Int.reduceMul, Int.reduceNeg, Int.reduceEq, Int.reduceNe, Int.reduceBNe, Int.reduceBEq, Int.reduceDiv]
end Go.Proofs.Ytpepfhbfooeoeaa.VA
end
section
/- What the law ChainAsks asks: the nonce behind any chain; how many are covered, by the page. -/
namespace Go.Proofs.Ytpepfhbfooeoeaa.VA
set_option maxRecDepth 10000
set_option linter.unusedSimpArgs false
set_option linter.unusedVariables false
set_option maxHeartbeats 16000000

theorem c_chain_NextG (l : List TxD) (n : Int) (hl : l.length * 200 ≤ reachBytes) (hok : ∀ a ∈ l, a.ok) :
    Contract Try.prog 45 [txs l, .int .i64 n] (.tup [.int .i64 (if chainOk l = true ∧ 0 ≤ n ∧ n ≤ 1099511627776 then nextOf l n else 0), .int .i64 (if chainOk l = true ∧ 0 ≤ n ∧ n ≤ 1099511627776 then 0 else 1)]) := by
  rcases Decidable.em (chainOk l = true ∧ 0 ≤ n ∧ n ≤ 1099511627776) with hc | hc
  · rw [if_pos hc, if_pos hc]
    exact c_chain_Next l n hl hok hc.1 hc.2
  · rw [if_neg hc, if_neg hc]
    refine contract_of (C := cf 30 [0, 1, 4, 5, 6, 17, 21] (fun _ => [])) (cf_ok _ _ _) (fn := Try.f45) Try.func45 (by kernel_rfl) rfl (by kernel_rfl) (by simp [cf]) (plain2 (txs_plain l) (.int _ _)) (by decide) (noCell (by kernel_rfl)) ?_
    simp only [go_sem, ↓reduceIte, Nat.reduceLT, Nat.reduceLeDiff, Nat.reduceAdd, Nat.reduceSub, Nat.reduceMul, Nat.reduceEqDiff, Nat.reduceBEq, Nat.reduceMod, Nat.reduceDiv, Int.reduceToNat, reduceCtorEq, Int.reduceLT, Int.reduceLE, Int.reduceGT, Int.reduceGE, Int.reduceAdd, Int.reduceSub, Int.reduceMul, Int.reduceNeg, Int.reduceEq, Int.reduceNe, Int.reduceBNe, Int.reduceBEq, Int.reduceDiv, txs]
    refine ex_call (by exact c_chain_Check l hl hok) ?_
    cases h : chainOk l
    · simp only [go_sem, ↓reduceIte, Nat.reduceLT, Nat.reduceLeDiff, Nat.reduceAdd, Nat.reduceSub, Nat.reduceMul, Nat.reduceEqDiff, Nat.reduceBEq, Nat.reduceMod, Nat.reduceDiv, Int.reduceToNat, reduceCtorEq, Int.reduceLT, Int.reduceLE, Int.reduceGT, Int.reduceGE, Int.reduceAdd, Int.reduceSub, Int.reduceMul, Int.reduceNeg, Int.reduceEq, Int.reduceNe, Int.reduceBNe, Int.reduceBEq, Int.reduceDiv]
      refine finTup ?_
      show resOf _ _ [.tmp 4, .tmp 5] = _
      simp only [go_sem, ↓reduceIte, Nat.reduceLT, Nat.reduceLeDiff, Nat.reduceAdd, Nat.reduceSub, Nat.reduceMul, Nat.reduceEqDiff, Nat.reduceBEq, Nat.reduceMod, Nat.reduceDiv, Int.reduceToNat, reduceCtorEq, Int.reduceLT, Int.reduceLE, Int.reduceGT, Int.reduceGE, Int.reduceAdd, Int.reduceSub, Int.reduceMul, Int.reduceNeg, Int.reduceEq, Int.reduceNe, Int.reduceBNe, Int.reduceBEq, Int.reduceDiv]
    · rw [h] at hc
      cases b1 : decide (n < 0)
      · have b2 : decide (n > 1099511627776) = true := decide_eq_true (by
          have := of_decide_eq_false b1
          simp at hc
          omega)
        simp only [go_sem, ↓reduceIte, Nat.reduceLT, Nat.reduceLeDiff, Nat.reduceAdd, Nat.reduceSub, Nat.reduceMul, Nat.reduceEqDiff, Nat.reduceBEq, Nat.reduceMod, Nat.reduceDiv, Int.reduceToNat, reduceCtorEq, Int.reduceLT, Int.reduceLE, Int.reduceGT, Int.reduceGE, Int.reduceAdd, Int.reduceSub, Int.reduceMul, Int.reduceNeg, Int.reduceEq, Int.reduceNe, Int.reduceBNe, Int.reduceBEq, Int.reduceDiv, b1, b2]
        refine finTup ?_
        show resOf _ _ [.tmp 4, .tmp 5] = _
        simp only [go_sem, ↓reduceIte, Nat.reduceLT, Nat.reduceLeDiff, Nat.reduceAdd, Nat.reduceSub, Nat.reduceMul, Nat.reduceEqDiff, Nat.reduceBEq, Nat.reduceMod, Nat.reduceDiv, Int.reduceToNat, reduceCtorEq, Int.reduceLT, Int.reduceLE, Int.reduceGT, Int.reduceGE, Int.reduceAdd, Int.reduceSub, Int.reduceMul, Int.reduceNeg, Int.reduceEq, Int.reduceNe, Int.reduceBNe, Int.reduceBEq, Int.reduceDiv]
      · simp only [go_sem, ↓reduceIte, Nat.reduceLT, Nat.reduceLeDiff, Nat.reduceAdd, Nat.reduceSub, Nat.reduceMul, Nat.reduceEqDiff, Nat.reduceBEq, Nat.reduceMod, Nat.reduceDiv, Int.reduceToNat, reduceCtorEq, Int.reduceLT, Int.reduceLE, Int.reduceGT, Int.reduceGE, Int.reduceAdd, Int.reduceSub, Int.reduceMul, Int.reduceNeg, Int.reduceEq, Int.reduceNe, Int.reduceBNe, Int.reduceBEq, Int.reduceDiv, b1]
        refine finTup ?_
        show resOf _ _ [.tmp 4, .tmp 5] = _
        simp only [go_sem, ↓reduceIte, Nat.reduceLT, Nat.reduceLeDiff, Nat.reduceAdd, Nat.reduceSub, Nat.reduceMul, Nat.reduceEqDiff, Nat.reduceBEq, Nat.reduceMod, Nat.reduceDiv, Int.reduceToNat, reduceCtorEq, Int.reduceLT, Int.reduceLE, Int.reduceGT, Int.reduceGE, Int.reduceAdd, Int.reduceSub, Int.reduceMul, Int.reduceNeg, Int.reduceEq, Int.reduceNe, Int.reduceBNe, Int.reduceBEq, Int.reduceDiv]
theorem cover_le (l : List TxD) : ∀ bal s : Nat, coverN l bal s ≤ l.length := by
  induction l with
  | nil => exact fun _ _ => Nat.le_refl _
  | cons t ts ih =>
    intro bal s
    simp only [coverN]
    split
    · have := ih bal (s + costOf t)
      simp only [List.length_cons]; omega
    · exact Nat.zero_le _
theorem cover_is (l : List TxD) : ∀ (bal s k : Nat), k ≤ l.length → s ≤ bal → (k ≤ coverN l bal s ↔ s + sumCost (l.take k) ≤ bal) := by
  induction l with
  | nil =>
    intro bal s k hk hs
    have : k = 0 := by simpa using hk
    subst this
    simp [sumCost, coverN, hs]
  | cons t ts ih =>
    intro bal s k hk hs
    cases k with
    | zero => simp [sumCost, hs]
    | succ k =>
      simp only [List.take_succ_cons, sumCost, coverN]
      split
      · rename_i h
        have := ih bal (s + costOf t) k (by simpa using hk) h
        rw [show s + (costOf t + sumCost (ts.take k)) = s + costOf t + sumCost (ts.take k) by omega, ← this]
        omega
      · rename_i h
        constructor
        · intro h2; omega
        · intro h2; omega
theorem cmp_le0 {n m : Nat} : cmpOf n m ≤ 0 ↔ n ≤ m := by
  have h := cmp_le (n := n) (m := m)
  rw [Bool.eq_iff_iff] at h
  simp only [decide_eq_true_eq, Bool.not_eq_true', decide_eq_false_iff_not] at h
  omega
theorem c_ref14_Covered (l : List TxD) (bal : Nat) (hbal : bal < U) (hc : ChainP l) (hok : ∀ a ∈ l, a.ok) : Contract Try.prog 39 [txs l, u bal] (.int .i64 (coverN l bal 0 : Nat)) := by
  have hlen := hc.len
  have hcl := cover_le l bal 0
  have hall : ∀ k, (l.take k).all validTx = true := fun k => List.all_eq_true.2 fun t ht => by
    obtain ⟨i, hi⟩ := List.getElem?_of_mem (List.mem_of_mem_take ht)
    exact hc.valid i t hi
  refine contract_of (C := cf 29 [0, 3, 4, 5, 6, 7, 11, 27] (fun _ => [])) (cf_ok _ _ _) (fn := Try.f39) Try.func39 (by kernel_rfl) rfl (by kernel_rfl) (by simp [cf]) (plain2 (txs_plain l) (u_plain bal)) (by decide) (noCell (by kernel_rfl)) ?_
  simp only [go_sem, ↓reduceIte, Nat.reduceLT, Nat.reduceLeDiff, Nat.reduceAdd, Nat.reduceSub, Nat.reduceMul, Nat.reduceEqDiff, Nat.reduceBEq, Nat.reduceMod, Nat.reduceDiv, Int.reduceToNat, reduceCtorEq, Int.reduceLT, Int.reduceLE, Int.reduceGT, Int.reduceGE, Int.reduceAdd, Int.reduceSub, Int.reduceMul, Int.reduceNeg, Int.reduceEq, Int.reduceNe, Int.reduceBNe, Int.reduceBEq, Int.reduceDiv, txs, List.length_map, u]
  refine ex_iter [0, 3, 5] (fun i : Nat => ⟨[(0, .sl false 21 (l.map TxD.av)), (3, .var 3 0), (5, .int .i64 i)], [(3, [.int .u64 (lim bal 0), .int .u64 (lim bal 1), .int .u64 (lim bal 2), .int .u64 (lim bal 3)])], []⟩) (fun i => coverN l bal 0 ≤ i ∧ i ≤ l.length) (fun i => i) l.length ?_ ?_ ?_
  · simp only [ASt.keep, consIf, keepL, keepV, AV.isBot, List.contains_cons, List.contains_nil, Nat.reduceBEq, Bool.or_false, Bool.false_or, Bool.or_true, Bool.true_or, beq_self_eq_true, Bool.false_eq_true, ↓reduceIte, if_false, if_true]
  · exact ⟨hcl, Nat.le_refl _⟩
  · rintro m i ⟨hi1, hi2⟩ next
    simp only [go_sem, ↓reduceIte, Nat.reduceLT, Nat.reduceLeDiff, Nat.reduceAdd, Nat.reduceSub, Nat.reduceMul, Nat.reduceEqDiff, Nat.reduceBEq, Nat.reduceMod, Nat.reduceDiv, Int.reduceToNat, reduceCtorEq, Int.reduceLT, Int.reduceLE, Int.reduceGT, Int.reduceGE, Int.reduceAdd, Int.reduceSub, Int.reduceMul, Int.reduceNeg, Int.reduceEq, Int.reduceNe, Int.reduceBNe, Int.reduceBEq, Int.reduceDiv]
    refine ex_br (fun h => ?_) (fun h => ?_)
    · have hpos : 0 < i := by simpa using h
      have hs : sumCost (l.take i) < U := Nat.lt_of_le_of_lt (sumCost_take l i) hc.sum
      have hsp := c_ref14_Spent (l.take i) (by rw [List.length_take]; unfold reachBytes; omega) (ok_take hok) (hall i)
      rw [if_pos hs, decide_eq_true hs] at hsp
      have hcmp := c_ref1_Cmp (sumCost (l.take i)) bal hs hbal
      unfold u at hcmp
      simp only [go_sem, ↓reduceIte, Nat.reduceLT, Nat.reduceLeDiff, Nat.reduceAdd, Nat.reduceSub, Nat.reduceMul, Nat.reduceEqDiff, Nat.reduceBEq, Nat.reduceMod, Nat.reduceDiv, Int.reduceToNat, reduceCtorEq, Int.reduceLT, Int.reduceLE, Int.reduceGT, Int.reduceGE, Int.reduceAdd, Int.reduceSub, Int.reduceMul, Int.reduceNeg, Int.reduceEq, Int.reduceNe, Int.reduceBNe, Int.reduceBEq, Int.reduceDiv, List.length_map, Int.toNat_natCast, Nat.sub_zero, ← List.map_take]
      repeat with_reducible refine And.intro (by first | omega | (simp only [List.length_cons, List.length_append, List.length_nil, List.length_map, List.length_take, List.length_drop, List.length_set]; omega)) ?_
      refine ex_call (by exact hsp) ?_
      simp only [go_sem, ↓reduceIte, Nat.reduceLT, Nat.reduceLeDiff, Nat.reduceAdd, Nat.reduceSub, Nat.reduceMul, Nat.reduceEqDiff, Nat.reduceBEq, Nat.reduceMod, Nat.reduceDiv, Int.reduceToNat, reduceCtorEq, Int.reduceLT, Int.reduceLE, Int.reduceGT, Int.reduceGE, Int.reduceAdd, Int.reduceSub, Int.reduceMul, Int.reduceNeg, Int.reduceEq, Int.reduceNe, Int.reduceBNe, Int.reduceBEq, Int.reduceDiv, u]
      refine ex_call (by exact hcmp) ?_
      simp only [go_sem, ↓reduceIte, Nat.reduceLT, Nat.reduceLeDiff, Nat.reduceAdd, Nat.reduceSub, Nat.reduceMul, Nat.reduceEqDiff, Nat.reduceBEq, Nat.reduceMod, Nat.reduceDiv, Int.reduceToNat, reduceCtorEq, Int.reduceLT, Int.reduceLE, Int.reduceGT, Int.reduceGE, Int.reduceAdd, Int.reduceSub, Int.reduceMul, Int.reduceNeg, Int.reduceEq, Int.reduceNe, Int.reduceBNe, Int.reduceBEq, Int.reduceDiv, cmp_le]
      have hcv := cover_is l bal 0 i hi2 (Nat.zero_le _)
      rw [Nat.zero_add] at hcv
      refine ex_br (fun hb => ?_) (fun hb => ?_)
      · have hb : sumCost (l.take i) ≤ bal := cmp_le0.1 (of_decide_eq_true hb)
        have e : coverN l bal 0 = i := by have := hcv.2 hb; omega
        rw [e]
        simp only [go_sem, ↓reduceIte, Nat.reduceLT, Nat.reduceLeDiff, Nat.reduceAdd, Nat.reduceSub, Nat.reduceMul, Nat.reduceEqDiff, Nat.reduceBEq, Nat.reduceMod, Nat.reduceDiv, Int.reduceToNat, reduceCtorEq, Int.reduceLT, Int.reduceLE, Int.reduceGT, Int.reduceGE, Int.reduceAdd, Int.reduceSub, Int.reduceMul, Int.reduceNeg, Int.reduceEq, Int.reduceNe, Int.reduceBNe, Int.reduceBEq, Int.reduceDiv]
        refine finOne ?_ (fun _ e => by cases e)
        show resOf _ _ [.tmp 4] = _
        simp only [go_sem, ↓reduceIte, Nat.reduceLT, Nat.reduceLeDiff, Nat.reduceAdd, Nat.reduceSub, Nat.reduceMul, Nat.reduceEqDiff, Nat.reduceBEq, Nat.reduceMod, Nat.reduceDiv, Int.reduceToNat, reduceCtorEq, Int.reduceLT, Int.reduceLE, Int.reduceGT, Int.reduceGE, Int.reduceAdd, Int.reduceSub, Int.reduceMul, Int.reduceNeg, Int.reduceEq, Int.reduceNe, Int.reduceBNe, Int.reduceBEq, Int.reduceDiv]
      · have hb : ¬ sumCost (l.take i) ≤ bal := fun k => of_decide_eq_false hb (cmp_le0.2 k)
        have hlt : coverN l bal 0 < i := by
          rcases Nat.lt_or_ge (coverN l bal 0) i with h1 | h1
          · exact h1
          · exact absurd (hcv.1 h1) hb
        have w1 : IntKind.i64.wrap ((i : Int) - 1) = ((i - 1 : Nat) : Int) := by rw [wi64 (by omega) (by omega)]; omega
        simp only [go_sem, ↓reduceIte, Nat.reduceLT, Nat.reduceLeDiff, Nat.reduceAdd, Nat.reduceSub, Nat.reduceMul, Nat.reduceEqDiff, Nat.reduceBEq, Nat.reduceMod, Nat.reduceDiv, Int.reduceToNat, reduceCtorEq, Int.reduceLT, Int.reduceLE, Int.reduceGT, Int.reduceGE, Int.reduceAdd, Int.reduceSub, Int.reduceMul, Int.reduceNeg, Int.reduceEq, Int.reduceNe, Int.reduceBNe, Int.reduceBEq, Int.reduceDiv]
        refine next (i - 1) _ ⟨by omega, by omega⟩ (by omega) ?_
        rw [← w1]
        simp only [ASt.keep, consIf, keepL, keepV, AV.isBot, List.contains_cons, List.contains_nil, Nat.reduceBEq, Bool.or_false, Bool.false_or, Bool.or_true, Bool.true_or, beq_self_eq_true, Bool.false_eq_true, ↓reduceIte, if_false, if_true]
    · have h0 : i = 0 := by
        have : ¬ 0 < i := by simpa using h
        omega
      have e : coverN l bal 0 = 0 := by omega
      rw [e]
      simp only [go_sem, ↓reduceIte, Nat.reduceLT, Nat.reduceLeDiff, Nat.reduceAdd, Nat.reduceSub, Nat.reduceMul, Nat.reduceEqDiff, Nat.reduceBEq, Nat.reduceMod, Nat.reduceDiv, Int.reduceToNat, reduceCtorEq, Int.reduceLT, Int.reduceLE, Int.reduceGT, Int.reduceGE, Int.reduceAdd, Int.reduceSub, Int.reduceMul, Int.reduceNeg, Int.reduceEq, Int.reduceNe, Int.reduceBNe, Int.reduceBEq, Int.reduceDiv]
      refine finOne ?_ (fun _ e => by cases e)
      show resOf _ _ [.tmp 4] = _
      simp only [go_sem, ↓reduceIte, Nat.reduceLT, Nat.reduceLeDiff, Nat.reduceAdd, Nat.reduceSub, Nat.reduceMul, Nat.reduceEqDiff, Nat.reduceBEq, Nat.reduceMod, Nat.reduceDiv, Int.reduceToNat, reduceCtorEq, Int.reduceLT, Int.reduceLE, Int.reduceGT, Int.reduceGE, Int.reduceAdd, Int.reduceSub, Int.reduceMul, Int.reduceNeg, Int.reduceEq, Int.reduceNe, Int.reduceBNe, Int.reduceBEq, Int.reduceDiv, Int.cast_ofNat_Int]
end Go.Proofs.Ytpepfhbfooeoeaa.VA
end
section
/- ChainCuts: the law answers true, whatever it is asked. -/
namespace Go.Proofs.Ytpepfhbfooeoeaa.VA
set_option maxRecDepth 10000
set_option linter.unusedSimpArgs false
set_option linter.unusedVariables false
set_option maxHeartbeats 16000000

/-! The page's own cut. -/
def lows (l : List TxD) (n : Int) : List TxD := l.filter (fun t => decide (t.nonce < n))
def highs (l : List TxD) (n : Int) : List TxD := l.filter (fun t => !decide (t.nonce < n))
theorem filter_succ {p : TxD → Bool} {l : List TxD} {i : Nat} {x : TxD} (ex : l[i]? = some x) : (l.take (i + 1)).filter p = (l.take i).filter p ++ (if p x = true then [x] else []) := by
  rw [List.take_add_one, ex, List.filter_append]
  congr 1
  simp only [Option.toList_some, List.filter_cons, List.filter_nil]
theorem c_ref14_Cut (l : List TxD) (n : Int) (hl : l.length * 200 ≤ reachBytes) (hok : ∀ a ∈ l, a.ok) :
    Contract Try.prog 44 [txs l, .int .i64 n] (.tup [.own false 21 ((lows l n).map TxD.av), .own false 21 ((highs l n).map TxD.av)]) := by
  unfold reachBytes at hl
  have f1 : ∀ i, ((lows (l.take i) n)).length ≤ l.length := fun i => Nat.le_trans (List.length_filter_le _ _) (by rw [List.length_take]; omega)
  have f2 : ∀ i, ((highs (l.take i) n)).length ≤ l.length := fun i => Nat.le_trans (List.length_filter_le _ _) (by rw [List.length_take]; omega)
  refine contract_of (C := cf 40 [0, 1, 4, 5, 6, 7, 8, 12, 21] (fun _ => [])) (cf_ok _ _ _) (fn := Try.f44) Try.func44 (by kernel_rfl) rfl (by kernel_rfl) (by simp [cf]) (plain2 (txs_plain l) (.int _ _)) (by decide) (noCell (by kernel_rfl)) ?_
  simp only [go_sem, ↓reduceIte, Nat.reduceLT, Nat.reduceLeDiff, Nat.reduceAdd, Nat.reduceSub, Nat.reduceMul, Nat.reduceEqDiff, Nat.reduceBEq, Nat.reduceMod, Nat.reduceDiv, Int.reduceToNat, reduceCtorEq, Int.reduceLT, Int.reduceLE, Int.reduceGT, Int.reduceGE, Int.reduceAdd, Int.reduceSub, Int.reduceMul, Int.reduceNeg, Int.reduceEq, Int.reduceNe, Int.reduceBNe, Int.reduceBEq, Int.reduceDiv, txs, List.length_map]
  refine ex_iter [0, 1, 6, 7, 8] (fun i : Nat => ⟨[(0, .sl false 21 (l.map TxD.av)), (1, .int .i64 n), (6, .own false 21 ((lows (l.take i) n).map TxD.av)), (7, .own false 21 ((highs (l.take i) n).map TxD.av)), (8, .int .i64 i)], [], []⟩) (fun i => i ≤ l.length) (fun i => l.length - i) 0 ?_ ?_ ?_
  · simp only [ASt.keep, consIf, keepL, keepV, AV.isBot, List.contains_cons, List.contains_nil, Nat.reduceBEq, Bool.or_false, Bool.false_or, Bool.or_true, Bool.true_or, beq_self_eq_true, Bool.false_eq_true, ↓reduceIte, if_false, if_true]
    rfl
  · exact Nat.zero_le _
  · intro m i hi next
    have g1 := f1 i
    have g2 := f2 i
    simp only [go_sem, ↓reduceIte, Nat.reduceLT, Nat.reduceLeDiff, Nat.reduceAdd, Nat.reduceSub, Nat.reduceMul, Nat.reduceEqDiff, Nat.reduceBEq, Nat.reduceMod, Nat.reduceDiv, Int.reduceToNat, reduceCtorEq, Int.reduceLT, Int.reduceLE, Int.reduceGT, Int.reduceGE, Int.reduceAdd, Int.reduceSub, Int.reduceMul, Int.reduceNeg, Int.reduceEq, Int.reduceNe, Int.reduceBNe, Int.reduceBEq, Int.reduceDiv, List.length_map]
    refine ex_br (fun h => ?_) (fun h => ?_)
    · have hlt : i < l.length := by simpa using h
      obtain ⟨x, ex⟩ : ∃ x, l[i]? = some x := ⟨_, List.getElem?_eq_getElem hlt⟩
      have hx := hok x (List.mem_of_getElem? ex)
      simp only [go_sem, ↓reduceIte, Nat.reduceLT, Nat.reduceLeDiff, Nat.reduceAdd, Nat.reduceSub, Nat.reduceMul, Nat.reduceEqDiff, Nat.reduceBEq, Nat.reduceMod, Nat.reduceDiv, Int.reduceToNat, reduceCtorEq, Int.reduceLT, Int.reduceLE, Int.reduceGT, Int.reduceGE, Int.reduceAdd, Int.reduceSub, Int.reduceMul, Int.reduceNeg, Int.reduceEq, Int.reduceNe, Int.reduceBNe, Int.reduceBEq, Int.reduceDiv, List.length_map, List.getElem?_map, ex, Int.toNat_natCast, TxD.av, TxD.cells]
      repeat with_reducible refine And.intro (by first | omega | (simp only [List.length_cons, List.length_append, List.length_nil, List.length_map, List.length_take, List.length_drop, List.length_set]; omega)) ?_
      refine ex_br (fun hc => ?_) (fun hc => ?_)
      · have e1 : (lows (l.take i) n).map TxD.av ++ [.agg x.cells] = (lows (l.take (i + 1)) n).map TxD.av := by
          unfold lows
          rw [filter_succ ex, if_pos hc, List.map_append]; rfl
        have e2 : highs (l.take i) n = highs (l.take (i + 1)) n := by
          unfold highs
          rw [filter_succ ex, if_neg (by rw [hc]; decide), List.append_nil]
        simp only [go_sem, ↓reduceIte, Nat.reduceLT, Nat.reduceLeDiff, Nat.reduceAdd, Nat.reduceSub, Nat.reduceMul, Nat.reduceEqDiff, Nat.reduceBEq, Nat.reduceMod, Nat.reduceDiv, Int.reduceToNat, reduceCtorEq, Int.reduceLT, Int.reduceLE, Int.reduceGT, Int.reduceGE, Int.reduceAdd, Int.reduceSub, Int.reduceMul, Int.reduceNeg, Int.reduceEq, Int.reduceNe, Int.reduceBNe, Int.reduceBEq, Int.reduceDiv, List.length_map, List.getElem?_map, ex, Int.toNat_natCast, TxD.av]
        repeat with_reducible refine And.intro (by first | omega | (simp only [List.length_cons, List.length_append, List.length_nil, List.length_map, List.length_take, List.length_drop, List.length_set]; omega)) ?_
        refine ex_call (by exact c_CopyTx x hx) ?_
        simp only [go_sem, ↓reduceIte, Nat.reduceLT, Nat.reduceLeDiff, Nat.reduceAdd, Nat.reduceSub, Nat.reduceMul, Nat.reduceEqDiff, Nat.reduceBEq, Nat.reduceMod, Nat.reduceDiv, Int.reduceToNat, reduceCtorEq, Int.reduceLT, Int.reduceLE, Int.reduceGT, Int.reduceGE, Int.reduceAdd, Int.reduceSub, Int.reduceMul, Int.reduceNeg, Int.reduceEq, Int.reduceNe, Int.reduceBNe, Int.reduceBEq, Int.reduceDiv, List.length_map, TxD.av, cells_len]
        repeat with_reducible refine And.intro (by first | omega | (simp only [List.length_cons, List.length_append, List.length_nil, List.length_map, List.length_take, List.length_drop, List.length_set]; omega)) ?_
        refine next (i + 1) _ (by omega) (by omega) ?_
        rw [← wi64_nat i (by omega), ← e1, ← e2]
        simp only [ASt.keep, consIf, keepL, keepV, AV.isBot, List.contains_cons, List.contains_nil, Nat.reduceBEq, Bool.or_false, Bool.false_or, Bool.or_true, Bool.true_or, beq_self_eq_true, Bool.false_eq_true, ↓reduceIte, if_false, if_true]
      · have e1 : (highs (l.take i) n).map TxD.av ++ [.agg x.cells] = (highs (l.take (i + 1)) n).map TxD.av := by
          unfold highs
          rw [filter_succ ex, if_pos (by rw [hc]; decide), List.map_append]; rfl
        have e2 : lows (l.take i) n = lows (l.take (i + 1)) n := by
          unfold lows
          rw [filter_succ ex, if_neg (by rw [hc]; decide), List.append_nil]
        simp only [go_sem, ↓reduceIte, Nat.reduceLT, Nat.reduceLeDiff, Nat.reduceAdd, Nat.reduceSub, Nat.reduceMul, Nat.reduceEqDiff, Nat.reduceBEq, Nat.reduceMod, Nat.reduceDiv, Int.reduceToNat, reduceCtorEq, Int.reduceLT, Int.reduceLE, Int.reduceGT, Int.reduceGE, Int.reduceAdd, Int.reduceSub, Int.reduceMul, Int.reduceNeg, Int.reduceEq, Int.reduceNe, Int.reduceBNe, Int.reduceBEq, Int.reduceDiv, List.length_map, List.getElem?_map, ex, Int.toNat_natCast, TxD.av]
        repeat with_reducible refine And.intro (by first | omega | (simp only [List.length_cons, List.length_append, List.length_nil, List.length_map, List.length_take, List.length_drop, List.length_set]; omega)) ?_
        refine ex_call (by exact c_CopyTx x hx) ?_
        simp only [go_sem, ↓reduceIte, Nat.reduceLT, Nat.reduceLeDiff, Nat.reduceAdd, Nat.reduceSub, Nat.reduceMul, Nat.reduceEqDiff, Nat.reduceBEq, Nat.reduceMod, Nat.reduceDiv, Int.reduceToNat, reduceCtorEq, Int.reduceLT, Int.reduceLE, Int.reduceGT, Int.reduceGE, Int.reduceAdd, Int.reduceSub, Int.reduceMul, Int.reduceNeg, Int.reduceEq, Int.reduceNe, Int.reduceBNe, Int.reduceBEq, Int.reduceDiv, List.length_map, TxD.av, cells_len]
        repeat with_reducible refine And.intro (by first | omega | (simp only [List.length_cons, List.length_append, List.length_nil, List.length_map, List.length_take, List.length_drop, List.length_set]; omega)) ?_
        refine next (i + 1) _ (by omega) (by omega) ?_
        rw [← wi64_nat i (by omega), ← e1, ← e2]
        simp only [ASt.keep, consIf, keepL, keepV, AV.isBot, List.contains_cons, List.contains_nil, Nat.reduceBEq, Bool.or_false, Bool.false_or, Bool.or_true, Bool.true_or, beq_self_eq_true, Bool.false_eq_true, ↓reduceIte, if_false, if_true]
    · have hge : i = l.length := by simp at h; omega
      subst hge
      simp only [go_sem, ↓reduceIte, Nat.reduceLT, Nat.reduceLeDiff, Nat.reduceAdd, Nat.reduceSub, Nat.reduceMul, Nat.reduceEqDiff, Nat.reduceBEq, Nat.reduceMod, Nat.reduceDiv, Int.reduceToNat, reduceCtorEq, Int.reduceLT, Int.reduceLE, Int.reduceGT, Int.reduceGE, Int.reduceAdd, Int.reduceSub, Int.reduceMul, Int.reduceNeg, Int.reduceEq, Int.reduceNe, Int.reduceBNe, Int.reduceBEq, Int.reduceDiv, List.take_length]
      refine finTup ?_
      show resOf _ _ [.tmp 4, .tmp 5] = _
      simp only [go_sem, ↓reduceIte, Nat.reduceLT, Nat.reduceLeDiff, Nat.reduceAdd, Nat.reduceSub, Nat.reduceMul, Nat.reduceEqDiff, Nat.reduceBEq, Nat.reduceMod, Nat.reduceDiv, Int.reduceToNat, reduceCtorEq, Int.reduceLT, Int.reduceLE, Int.reduceGT, Int.reduceGE, Int.reduceAdd, Int.reduceSub, Int.reduceMul, Int.reduceNeg, Int.reduceEq, Int.reduceNe, Int.reduceBNe, Int.reduceBEq, Int.reduceDiv]

/-! A chain's nonces mount. -/
def Mounts (l : List TxD) : Prop := ∀ (i j : Nat) t s, i ≤ j → l[i]? = some t → l[j]? = some s → t.nonce ≤ s.nonce
theorem Mounts.tail {t : TxD} {ts : List TxD} (h : Mounts (t :: ts)) : Mounts ts := fun i j a b hij ha hb => h (i + 1) (j + 1) a b (by omega) (by simpa using ha) (by simpa using hb)
theorem ChainP.mounts {l : List TxD} (h : ChainP l) : Mounts l := fun i j t s hij ht hs => by
  obtain ⟨a, ea⟩ : ∃ a, l[0]? = some a := ⟨_, List.getElem?_eq_getElem (by have := (List.getElem?_eq_some_iff.1 ht).1; omega)⟩
  have h1 := (h.link i a t ea ht).2
  have h2 := (h.link j a s ea hs).2
  omega
theorem lows_eq {n : Int} : ∀ {l : List TxD}, Mounts l → lows l n = l.take (belowN l n)
  | [], _ => rfl
  | t :: ts, h => by
    simp only [lows, belowN, List.filter_cons]
    by_cases ht : t.nonce < n
    · rw [if_pos (by simpa using ht), if_pos ht, List.take_succ_cons]
      congr 1
      exact lows_eq h.tail
    · rw [if_neg (by simpa using ht), if_neg ht, List.take_zero]
      refine List.filter_eq_nil_iff.2 fun s hs => ?_
      obtain ⟨j, hj⟩ := List.getElem?_of_mem hs
      have := h 0 (j + 1) t s (by omega) rfl (by simpa using hj)
      simp only [decide_eq_true_eq]
      omega
theorem highs_eq {n : Int} : ∀ {l : List TxD}, Mounts l → highs l n = l.drop (belowN l n)
  | [], _ => rfl
  | t :: ts, h => by
    simp only [highs, belowN, List.filter_cons]
    by_cases ht : t.nonce < n
    · rw [if_neg (by simpa using ht), if_pos ht, List.drop_succ_cons]
      exact highs_eq h.tail
    · rw [if_pos (by simpa using ht), if_neg ht, List.drop_zero]
      congr 1
      refine List.filter_eq_self.2 fun s hs => ?_
      obtain ⟨j, hj⟩ := List.getElem?_of_mem hs
      have := h 0 (j + 1) t s (by omega) rfl (by simpa using hj)
      simp only [Bool.not_eq_true', decide_eq_false_iff_not]
      omega
end Go.Proofs.Ytpepfhbfooeoeaa.VA
end
