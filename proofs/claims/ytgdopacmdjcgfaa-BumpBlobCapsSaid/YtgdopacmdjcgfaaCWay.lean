/- BumpTips, BumpCaps, BumpBlobCaps: the law's function answers true. -/
import Derived.Test.YtgdopacmdjcgfaaCSub
namespace Go.Proofs.Ytgdopacmdjcgfaa.VA
set_option maxRecDepth 10000
set_option linter.unusedSimpArgs false
set_option linter.unusedVariables false
set_option maxHeartbeats 16000000

def bumped (a : TxD) (x y z : Nat) : TxD := { a with tip := x, cap := y, bcap := z }
/-- One way with a unit less (d < 0) or d more. -/
def shift (v : Nat) (d : Int) : Nat := if d < 0 then (if 1 ≤ v then v - 1 else 0) else (if v + d.toNat < U then v + d.toNat else 0)
def shiftOk (v : Nat) (d : Int) : Bool := if d < 0 then decide (1 ≤ v) else decide (v + d.toNat < U)
def lessTx (a : TxD) (w : Nat) (d : Int) : TxD :=
  if w = 0 then bumped a (shift (a.tip + a.tip) d) (a.cap + a.cap) (a.bcap + a.bcap)
  else if w = 1 then bumped a (a.tip + a.tip) (shift (a.cap + a.cap) d) (a.bcap + a.bcap)
  else bumped a (a.tip + a.tip) (a.cap + a.cap) (shift (a.bcap + a.bcap) d)
def lessOk (a : TxD) (w : Nat) (d : Int) : Bool :=
  (if w = 0 then shiftOk (a.tip + a.tip) d else if w = 1 then shiftOk (a.cap + a.cap) d else shiftOk (a.bcap + a.bcap) d) && pairOf a (lessTx a w d)
def fits2 (a : TxD) : Prop := a.tip + a.tip < U ∧ a.cap + a.cap < U ∧ a.bcap + a.bcap < U
theorem shift_lt {v : Nat} (hv : v < U) (d : Int) : shift v d < U := by
  unfold shift; split <;> split <;> first | assumption | (unfold U at *; omega) | decide
theorem bumped_ok {a : TxD} (h : a.ok) {x y z : Nat} (hx : x < U) (hy : y < U) (hz : z < U) : (bumped a x y z).ok :=
  ⟨h.frm, h.nonce, h.gas, hx, hy, hz, h.value, h.hashes, h.blobs, h.blob⟩
theorem res_split {f : FuncId} {args : List AV} {P : Prop} [Decidable P] {v : Nat} (h : Contract Try.prog f args (.tup [u (if P then v else 0), .bool (decide P)])) {r : Nat} {o : Bool} (hr : r = if P then v else 0) (ho : o = decide P) : Contract Try.prog f args (.tup [u r, .bool o]) := by
  rw [hr, ho]; exact h
theorem c_less0 (a : TxD) (h : a.ok) (d : Int) (hd : -1 ≤ d ∧ d ≤ 1) (hf : fits2 a) :
    Contract Try.prog 53 [a.av, .int .i64 (0 : Nat), .int .i64 d] (.tup [((bumped a (shift (a.tip + a.tip) d) (a.cap + a.cap) (a.bcap + a.bcap))).av, .bool (shiftOk (a.tip + a.tip) d && pairOf a (bumped a (shift (a.tip + a.tip) d) (a.cap + a.cap) (a.bcap + a.bcap)))]) := by
  obtain ⟨f1, f2, f3⟩ := hf
  have hp := c_Pair a (bumped a (shift (a.tip + a.tip) d) (a.cap + a.cap) (a.bcap + a.bcap)) h (bumped_ok h (shift_lt f1 d) f2 f3)
  have a1 := c_ref1_Add a.tip a.tip h.tip h.tip
  have a2 := c_ref1_Add a.cap a.cap h.cap h.cap
  have a3 := c_ref1_Add a.bcap a.bcap h.bcap h.bcap
  rw [if_pos f1, decide_eq_true f1] at a1
  rw [if_pos f2, decide_eq_true f2] at a2
  rw [if_pos f3, decide_eq_true f3] at a3
  have one : (1 : Nat) < U := by decide
  have du : d.toNat < U := by unfold U; omega
  have uone := u_small 1 (by decide)
  have ud := u_small d.toNat (by omega)
  have sub : ∀ v, v < U → d < 0 → Contract Try.prog 39 [u v, .agg [.int .u64 1, .int .u64 0, .int .u64 0, .int .u64 0]] (.tup [u (shift v d), .bool (shiftOk v d)]) := fun v hv hneg => by
    have c := c_ref1_Sub v 1 hv one
    rw [uone] at c
    exact res_split c (by unfold shift; rw [if_pos hneg]) (by unfold shiftOk; rw [if_pos hneg])
  have add : ∀ v, v < U → ¬ d < 0 → Contract Try.prog 52 [u v, .agg [.int .u64 (IntKind.u64.wrap d), .int .u64 0, .int .u64 0, .int .u64 0]] (.tup [u (shift v d), .bool (shiftOk v d)]) := fun v hv hpos => by
    have c := c_ref1_Add v d.toNat hv du
    rw [ud, show ((d.toNat : Nat) : Int) = IntKind.u64.wrap d from by rw [wu64 (by omega) (by omega)]; omega] at c
    exact res_split c (by unfold shift; rw [if_neg hpos]) (by unfold shiftOk; rw [if_neg hpos])
  refine contract_of (C := cf 104 [1, 2, 3, 6, 7, 8, 9, 10, 11, 12, 13, 14, 15, 51, 58] (fun _ => [])) (cf_ok _ _ _) (fn := Try.f53) Try.func53 (by kernel_rfl) rfl (by kernel_rfl) (by simp [cf]) (plain3 a.plain (.int _ _) (.int _ _)) (by decide) (cellsOk (by kernel_rfl)) ?_
  simp only [go_sem, ↓reduceIte, Nat.reduceLT, Nat.reduceLeDiff, Nat.reduceAdd, Nat.reduceSub, Nat.reduceMul, Nat.reduceEqDiff, Nat.reduceBEq, Nat.reduceMod, Nat.reduceDiv, Int.reduceToNat, reduceCtorEq, Int.reduceLT, Int.reduceLE, Int.reduceGT, Int.reduceGE, Int.reduceAdd, Int.reduceSub, Int.reduceMul, Int.reduceNeg, Int.reduceEq, Int.reduceNe, Int.reduceBNe, Int.reduceBEq, Int.reduceDiv, TxD.av, TxD.cells, ints, strs]
  refine ex_call (by exact c_CopyTx a h) ?_
  simp only [go_sem, ↓reduceIte, Nat.reduceLT, Nat.reduceLeDiff, Nat.reduceAdd, Nat.reduceSub, Nat.reduceMul, Nat.reduceEqDiff, Nat.reduceBEq, Nat.reduceMod, Nat.reduceDiv, Int.reduceToNat, reduceCtorEq, Int.reduceLT, Int.reduceLE, Int.reduceGT, Int.reduceGE, Int.reduceAdd, Int.reduceSub, Int.reduceMul, Int.reduceNeg, Int.reduceEq, Int.reduceNe, Int.reduceBNe, Int.reduceBEq, Int.reduceDiv, TxD.av, TxD.cells, ints, strs]
  refine ex_call (by exact a1) ?_
  simp only [go_sem, ↓reduceIte, Nat.reduceLT, Nat.reduceLeDiff, Nat.reduceAdd, Nat.reduceSub, Nat.reduceMul, Nat.reduceEqDiff, Nat.reduceBEq, Nat.reduceMod, Nat.reduceDiv, Int.reduceToNat, reduceCtorEq, Int.reduceLT, Int.reduceLE, Int.reduceGT, Int.reduceGE, Int.reduceAdd, Int.reduceSub, Int.reduceMul, Int.reduceNeg, Int.reduceEq, Int.reduceNe, Int.reduceBNe, Int.reduceBEq, Int.reduceDiv, u]
  refine ex_call (by exact a2) ?_
  simp only [go_sem, ↓reduceIte, Nat.reduceLT, Nat.reduceLeDiff, Nat.reduceAdd, Nat.reduceSub, Nat.reduceMul, Nat.reduceEqDiff, Nat.reduceBEq, Nat.reduceMod, Nat.reduceDiv, Int.reduceToNat, reduceCtorEq, Int.reduceLT, Int.reduceLE, Int.reduceGT, Int.reduceGE, Int.reduceAdd, Int.reduceSub, Int.reduceMul, Int.reduceNeg, Int.reduceEq, Int.reduceNe, Int.reduceBNe, Int.reduceBEq, Int.reduceDiv, u]
  refine ex_call (by exact a3) ?_
  simp only [go_sem, ↓reduceIte, Nat.reduceLT, Nat.reduceLeDiff, Nat.reduceAdd, Nat.reduceSub, Nat.reduceMul, Nat.reduceEqDiff, Nat.reduceBEq, Nat.reduceMod, Nat.reduceDiv, Int.reduceToNat, reduceCtorEq, Int.reduceLT, Int.reduceLE, Int.reduceGT, Int.reduceGE, Int.reduceAdd, Int.reduceSub, Int.reduceMul, Int.reduceNeg, Int.reduceEq, Int.reduceNe, Int.reduceBNe, Int.reduceBEq, Int.reduceDiv, u]
  clear a1 a2 a3
  refine ex_br (fun hneg => ?_) (fun hneg => ?_)
  · have hneg := of_decide_eq_true hneg
    have hs := sub (a.tip + a.tip) f1 hneg
    simp only [go_sem, ↓reduceIte, Nat.reduceLT, Nat.reduceLeDiff, Nat.reduceAdd, Nat.reduceSub, Nat.reduceMul, Nat.reduceEqDiff, Nat.reduceBEq, Nat.reduceMod, Nat.reduceDiv, Int.reduceToNat, reduceCtorEq, Int.reduceLT, Int.reduceLE, Int.reduceGT, Int.reduceGE, Int.reduceAdd, Int.reduceSub, Int.reduceMul, Int.reduceNeg, Int.reduceEq, Int.reduceNe, Int.reduceBNe, Int.reduceBEq, Int.reduceDiv, Int.cast_ofNat_Int, Int.toNat_zero]
    repeat with_reducible refine And.intro (by first | omega | (simp only [List.length_cons, List.length_append, List.length_nil, List.length_map, List.length_take, List.length_drop, List.length_set]; omega)) ?_
    refine ex_call (by exact hs) ?_
    simp only [go_sem, ↓reduceIte, Nat.reduceLT, Nat.reduceLeDiff, Nat.reduceAdd, Nat.reduceSub, Nat.reduceMul, Nat.reduceEqDiff, Nat.reduceBEq, Nat.reduceMod, Nat.reduceDiv, Int.reduceToNat, reduceCtorEq, Int.reduceLT, Int.reduceLE, Int.reduceGT, Int.reduceGE, Int.reduceAdd, Int.reduceSub, Int.reduceMul, Int.reduceNeg, Int.reduceEq, Int.reduceNe, Int.reduceBNe, Int.reduceBEq, Int.reduceDiv, u, Int.cast_ofNat_Int]
    clear hs
    refine ex_draw [5, 8, 10, 12, 14] [] (.quiet 0 (.quiet 1 (.quiet 3 (.quiet 4 (.quiet 6 (.quiet 7 (.three 2 (.quiet 9 (.unlock (.three 5 (.two 8 (.one 10 (.quiet 11 (.one 12 (.quiet 13 (.one 14 (.fin)))))) 10 (.quiet 11 (.two 8 (.one 12 (.quiet 13 (.one 14 (.fin)))) 12 (.one 8 (.quiet 13 (.one 14 (.fin))))))) 8 (.two 5 (.one 10 (.quiet 11 (.one 12 (.quiet 13 (.one 14 (.fin)))))) 10 (.one 5 (.quiet 11 (.one 12 (.quiet 13 (.one 14 (.fin))))))) 10 (.two 5 (.quiet 11 (.two 8 (.one 12 (.quiet 13 (.one 14 (.fin)))) 12 (.one 8 (.quiet 13 (.one 14 (.fin)))))) 8 (.one 5 (.quiet 11 (.one 12 (.quiet 13 (.one 14 (.fin)))))))))) 5 (.two 2 (.quiet 9 (.unlock (.two 8 (.one 10 (.quiet 11 (.one 12 (.quiet 13 (.one 14 (.fin)))))) 10 (.quiet 11 (.two 8 (.one 12 (.quiet 13 (.one 14 (.fin)))) 12 (.one 8 (.quiet 13 (.one 14 (.fin))))))))) 8 (.one 2 (.quiet 9 (.unlock (.one 10 (.quiet 11 (.one 12 (.quiet 13 (.one 14 (.fin)))))))))) 8 (.two 2 (.quiet 9 (.unlock (.two 5 (.one 10 (.quiet 11 (.one 12 (.quiet 13 (.one 14 (.fin)))))) 10 (.one 5 (.quiet 11 (.one 12 (.quiet 13 (.one 14 (.fin))))))))) 5 (.one 2 (.quiet 9 (.unlock (.one 10 (.quiet 11 (.one 12 (.quiet 13 (.one 14 (.fin))))))))))))))))) (by kernel_rfl) ?_
    simp only [go_sem, ↓reduceIte, Nat.reduceLT, Nat.reduceLeDiff, Nat.reduceAdd, Nat.reduceSub, Nat.reduceMul, Nat.reduceEqDiff, Nat.reduceBEq, Nat.reduceMod, Nat.reduceDiv, Int.reduceToNat, reduceCtorEq, Int.reduceLT, Int.reduceLE, Int.reduceGT, Int.reduceGE, Int.reduceAdd, Int.reduceSub, Int.reduceMul, Int.reduceNeg, Int.reduceEq, Int.reduceNe, Int.reduceBNe, Int.reduceBEq, Int.reduceDiv, ex_ord_three, ex_ord_two]
    repeat with_reducible refine And.intro (by first | omega | (simp only [List.length_cons, List.length_append, List.length_nil, List.length_map, List.length_take, List.length_drop, List.length_set]; omega)) ?_
    refine ex_draw [7] [] (.quiet 0 (.quiet 1 (.quiet 2 (.two 3 (.one 4 (.one 5 (.quiet 6 (.unlock (.one 7 (.quiet 8 (.fin))))))) 4 (.one 3 (.one 5 (.quiet 6 (.unlock (.one 7 (.quiet 8 (.fin))))))))))) (by kernel_rfl) ?_
    cases hok : shiftOk (a.tip + a.tip) d
    · simp only [go_sem, ↓reduceIte, Nat.reduceLT, Nat.reduceLeDiff, Nat.reduceAdd, Nat.reduceSub, Nat.reduceMul, Nat.reduceEqDiff, Nat.reduceBEq, Nat.reduceMod, Nat.reduceDiv, Int.reduceToNat, reduceCtorEq, Int.reduceLT, Int.reduceLE, Int.reduceGT, Int.reduceGE, Int.reduceAdd, Int.reduceSub, Int.reduceMul, Int.reduceNeg, Int.reduceEq, Int.reduceNe, Int.reduceBNe, Int.reduceBEq, Int.reduceDiv, ex_ord_two]
      refine finTupD (vs' := [(bumped a (shift (a.tip + a.tip) d) (a.cap + a.cap) (a.bcap + a.bcap)).av, .bool false]) ?_ (.cons (.dull (.refl _)) (.cons (.dull (.refl _)) .nil))
      show resOf _ _ [.cell 6 41, .tmp 7] = _
      simp only [go_sem, ↓reduceIte, Nat.reduceLT, Nat.reduceLeDiff, Nat.reduceAdd, Nat.reduceSub, Nat.reduceMul, Nat.reduceEqDiff, Nat.reduceBEq, Nat.reduceMod, Nat.reduceDiv, Int.reduceToNat, reduceCtorEq, Int.reduceLT, Int.reduceLE, Int.reduceGT, Int.reduceGE, Int.reduceAdd, Int.reduceSub, Int.reduceMul, Int.reduceNeg, Int.reduceEq, Int.reduceNe, Int.reduceBNe, Int.reduceBEq, Int.reduceDiv]
      rfl
    · simp only [go_sem, ↓reduceIte, Nat.reduceLT, Nat.reduceLeDiff, Nat.reduceAdd, Nat.reduceSub, Nat.reduceMul, Nat.reduceEqDiff, Nat.reduceBEq, Nat.reduceMod, Nat.reduceDiv, Int.reduceToNat, reduceCtorEq, Int.reduceLT, Int.reduceLE, Int.reduceGT, Int.reduceGE, Int.reduceAdd, Int.reduceSub, Int.reduceMul, Int.reduceNeg, Int.reduceEq, Int.reduceNe, Int.reduceBNe, Int.reduceBEq, Int.reduceDiv, ex_ord_two]
      try refine And.intro ?_ ?_
      all_goals (first | refine ex_call (by exact hp) ?_ | refine ex_call_dull (.cons (.refl _) (.cons (TxD.dull_av (bumped a (shift (a.tip + a.tip) d) (a.cap + a.cap) (a.bcap + a.bcap))) .nil)) (by exact hp) ?_)
      all_goals simp only [go_sem, ↓reduceIte, Nat.reduceLT, Nat.reduceLeDiff, Nat.reduceAdd, Nat.reduceSub, Nat.reduceMul, Nat.reduceEqDiff, Nat.reduceBEq, Nat.reduceMod, Nat.reduceDiv, Int.reduceToNat, reduceCtorEq, Int.reduceLT, Int.reduceLE, Int.reduceGT, Int.reduceGE, Int.reduceAdd, Int.reduceSub, Int.reduceMul, Int.reduceNeg, Int.reduceEq, Int.reduceNe, Int.reduceBNe, Int.reduceBEq, Int.reduceDiv]
      all_goals (first | (refine finTupD (vs' := [(bumped a (shift (a.tip + a.tip) d) (a.cap + a.cap) (a.bcap + a.bcap)).av, .bool (pairOf a (bumped a (shift (a.tip + a.tip) d) (a.cap + a.cap) (a.bcap + a.bcap)))]) ?_ (.cons (.dull (.refl _)) (.cons (.dull (.refl _)) .nil)); show resOf _ _ [.cell 6 41, .tmp 7] = _; simp only [go_sem, ↓reduceIte, Nat.reduceLT, Nat.reduceLeDiff, Nat.reduceAdd, Nat.reduceSub, Nat.reduceMul, Nat.reduceEqDiff, Nat.reduceBEq, Nat.reduceMod, Nat.reduceDiv, Int.reduceToNat, reduceCtorEq, Int.reduceLT, Int.reduceLE, Int.reduceGT, Int.reduceGE, Int.reduceAdd, Int.reduceSub, Int.reduceMul, Int.reduceNeg, Int.reduceEq, Int.reduceNe, Int.reduceBNe, Int.reduceBEq, Int.reduceDiv]; rfl) | (refine finTupD (vs' := [(bumped a (shift (a.tip + a.tip) d) (a.cap + a.cap) (a.bcap + a.bcap)).dull, .bool (pairOf a (bumped a (shift (a.tip + a.tip) d) (a.cap + a.cap) (a.bcap + a.bcap)))]) ?_ (.cons (.dull (TxD.dull_av _)) (.cons (.dull (.refl _)) .nil)); show resOf _ _ [.cell 6 41, .tmp 7] = _; simp only [go_sem, ↓reduceIte, Nat.reduceLT, Nat.reduceLeDiff, Nat.reduceAdd, Nat.reduceSub, Nat.reduceMul, Nat.reduceEqDiff, Nat.reduceBEq, Nat.reduceMod, Nat.reduceDiv, Int.reduceToNat, reduceCtorEq, Int.reduceLT, Int.reduceLE, Int.reduceGT, Int.reduceGE, Int.reduceAdd, Int.reduceSub, Int.reduceMul, Int.reduceNeg, Int.reduceEq, Int.reduceNe, Int.reduceBNe, Int.reduceBEq, Int.reduceDiv]; rfl))
  · have hneg := of_decide_eq_false hneg
    have hs := add (a.tip + a.tip) f1 hneg
    simp only [go_sem, ↓reduceIte, Nat.reduceLT, Nat.reduceLeDiff, Nat.reduceAdd, Nat.reduceSub, Nat.reduceMul, Nat.reduceEqDiff, Nat.reduceBEq, Nat.reduceMod, Nat.reduceDiv, Int.reduceToNat, reduceCtorEq, Int.reduceLT, Int.reduceLE, Int.reduceGT, Int.reduceGE, Int.reduceAdd, Int.reduceSub, Int.reduceMul, Int.reduceNeg, Int.reduceEq, Int.reduceNe, Int.reduceBNe, Int.reduceBEq, Int.reduceDiv, Int.cast_ofNat_Int, Int.toNat_zero]
    repeat with_reducible refine And.intro (by first | omega | (simp only [List.length_cons, List.length_append, List.length_nil, List.length_map, List.length_take, List.length_drop, List.length_set]; omega)) ?_
    refine ex_call (by exact hs) ?_
    simp only [go_sem, ↓reduceIte, Nat.reduceLT, Nat.reduceLeDiff, Nat.reduceAdd, Nat.reduceSub, Nat.reduceMul, Nat.reduceEqDiff, Nat.reduceBEq, Nat.reduceMod, Nat.reduceDiv, Int.reduceToNat, reduceCtorEq, Int.reduceLT, Int.reduceLE, Int.reduceGT, Int.reduceGE, Int.reduceAdd, Int.reduceSub, Int.reduceMul, Int.reduceNeg, Int.reduceEq, Int.reduceNe, Int.reduceBNe, Int.reduceBEq, Int.reduceDiv, u, Int.cast_ofNat_Int]
    clear hs
    refine ex_draw [5, 8, 10, 12, 14] [] (.quiet 0 (.quiet 1 (.quiet 3 (.quiet 4 (.quiet 6 (.quiet 7 (.three 2 (.quiet 9 (.unlock (.three 5 (.two 8 (.one 10 (.quiet 11 (.one 12 (.quiet 13 (.one 14 (.fin)))))) 10 (.quiet 11 (.two 8 (.one 12 (.quiet 13 (.one 14 (.fin)))) 12 (.one 8 (.quiet 13 (.one 14 (.fin))))))) 8 (.two 5 (.one 10 (.quiet 11 (.one 12 (.quiet 13 (.one 14 (.fin)))))) 10 (.one 5 (.quiet 11 (.one 12 (.quiet 13 (.one 14 (.fin))))))) 10 (.two 5 (.quiet 11 (.two 8 (.one 12 (.quiet 13 (.one 14 (.fin)))) 12 (.one 8 (.quiet 13 (.one 14 (.fin)))))) 8 (.one 5 (.quiet 11 (.one 12 (.quiet 13 (.one 14 (.fin)))))))))) 5 (.two 2 (.quiet 9 (.unlock (.two 8 (.one 10 (.quiet 11 (.one 12 (.quiet 13 (.one 14 (.fin)))))) 10 (.quiet 11 (.two 8 (.one 12 (.quiet 13 (.one 14 (.fin)))) 12 (.one 8 (.quiet 13 (.one 14 (.fin))))))))) 8 (.one 2 (.quiet 9 (.unlock (.one 10 (.quiet 11 (.one 12 (.quiet 13 (.one 14 (.fin)))))))))) 8 (.two 2 (.quiet 9 (.unlock (.two 5 (.one 10 (.quiet 11 (.one 12 (.quiet 13 (.one 14 (.fin)))))) 10 (.one 5 (.quiet 11 (.one 12 (.quiet 13 (.one 14 (.fin))))))))) 5 (.one 2 (.quiet 9 (.unlock (.one 10 (.quiet 11 (.one 12 (.quiet 13 (.one 14 (.fin))))))))))))))))) (by kernel_rfl) ?_
    simp only [go_sem, ↓reduceIte, Nat.reduceLT, Nat.reduceLeDiff, Nat.reduceAdd, Nat.reduceSub, Nat.reduceMul, Nat.reduceEqDiff, Nat.reduceBEq, Nat.reduceMod, Nat.reduceDiv, Int.reduceToNat, reduceCtorEq, Int.reduceLT, Int.reduceLE, Int.reduceGT, Int.reduceGE, Int.reduceAdd, Int.reduceSub, Int.reduceMul, Int.reduceNeg, Int.reduceEq, Int.reduceNe, Int.reduceBNe, Int.reduceBEq, Int.reduceDiv, ex_ord_three, ex_ord_two]
    repeat with_reducible refine And.intro (by first | omega | (simp only [List.length_cons, List.length_append, List.length_nil, List.length_map, List.length_take, List.length_drop, List.length_set]; omega)) ?_
    refine ex_draw [7] [] (.quiet 0 (.quiet 1 (.quiet 2 (.two 3 (.one 4 (.one 5 (.quiet 6 (.unlock (.one 7 (.quiet 8 (.fin))))))) 4 (.one 3 (.one 5 (.quiet 6 (.unlock (.one 7 (.quiet 8 (.fin))))))))))) (by kernel_rfl) ?_
    cases hok : shiftOk (a.tip + a.tip) d
    · simp only [go_sem, ↓reduceIte, Nat.reduceLT, Nat.reduceLeDiff, Nat.reduceAdd, Nat.reduceSub, Nat.reduceMul, Nat.reduceEqDiff, Nat.reduceBEq, Nat.reduceMod, Nat.reduceDiv, Int.reduceToNat, reduceCtorEq, Int.reduceLT, Int.reduceLE, Int.reduceGT, Int.reduceGE, Int.reduceAdd, Int.reduceSub, Int.reduceMul, Int.reduceNeg, Int.reduceEq, Int.reduceNe, Int.reduceBNe, Int.reduceBEq, Int.reduceDiv, ex_ord_two]
      refine finTupD (vs' := [(bumped a (shift (a.tip + a.tip) d) (a.cap + a.cap) (a.bcap + a.bcap)).av, .bool false]) ?_ (.cons (.dull (.refl _)) (.cons (.dull (.refl _)) .nil))
      show resOf _ _ [.cell 6 41, .tmp 7] = _
      simp only [go_sem, ↓reduceIte, Nat.reduceLT, Nat.reduceLeDiff, Nat.reduceAdd, Nat.reduceSub, Nat.reduceMul, Nat.reduceEqDiff, Nat.reduceBEq, Nat.reduceMod, Nat.reduceDiv, Int.reduceToNat, reduceCtorEq, Int.reduceLT, Int.reduceLE, Int.reduceGT, Int.reduceGE, Int.reduceAdd, Int.reduceSub, Int.reduceMul, Int.reduceNeg, Int.reduceEq, Int.reduceNe, Int.reduceBNe, Int.reduceBEq, Int.reduceDiv]
      rfl
    · simp only [go_sem, ↓reduceIte, Nat.reduceLT, Nat.reduceLeDiff, Nat.reduceAdd, Nat.reduceSub, Nat.reduceMul, Nat.reduceEqDiff, Nat.reduceBEq, Nat.reduceMod, Nat.reduceDiv, Int.reduceToNat, reduceCtorEq, Int.reduceLT, Int.reduceLE, Int.reduceGT, Int.reduceGE, Int.reduceAdd, Int.reduceSub, Int.reduceMul, Int.reduceNeg, Int.reduceEq, Int.reduceNe, Int.reduceBNe, Int.reduceBEq, Int.reduceDiv, ex_ord_two]
      try refine And.intro ?_ ?_
      all_goals (first | refine ex_call (by exact hp) ?_ | refine ex_call_dull (.cons (.refl _) (.cons (TxD.dull_av (bumped a (shift (a.tip + a.tip) d) (a.cap + a.cap) (a.bcap + a.bcap))) .nil)) (by exact hp) ?_)
      all_goals simp only [go_sem, ↓reduceIte, Nat.reduceLT, Nat.reduceLeDiff, Nat.reduceAdd, Nat.reduceSub, Nat.reduceMul, Nat.reduceEqDiff, Nat.reduceBEq, Nat.reduceMod, Nat.reduceDiv, Int.reduceToNat, reduceCtorEq, Int.reduceLT, Int.reduceLE, Int.reduceGT, Int.reduceGE, Int.reduceAdd, Int.reduceSub, Int.reduceMul, Int.reduceNeg, Int.reduceEq, Int.reduceNe, Int.reduceBNe, Int.reduceBEq, Int.reduceDiv]
      all_goals (first | (refine finTupD (vs' := [(bumped a (shift (a.tip + a.tip) d) (a.cap + a.cap) (a.bcap + a.bcap)).av, .bool (pairOf a (bumped a (shift (a.tip + a.tip) d) (a.cap + a.cap) (a.bcap + a.bcap)))]) ?_ (.cons (.dull (.refl _)) (.cons (.dull (.refl _)) .nil)); show resOf _ _ [.cell 6 41, .tmp 7] = _; simp only [go_sem, ↓reduceIte, Nat.reduceLT, Nat.reduceLeDiff, Nat.reduceAdd, Nat.reduceSub, Nat.reduceMul, Nat.reduceEqDiff, Nat.reduceBEq, Nat.reduceMod, Nat.reduceDiv, Int.reduceToNat, reduceCtorEq, Int.reduceLT, Int.reduceLE, Int.reduceGT, Int.reduceGE, Int.reduceAdd, Int.reduceSub, Int.reduceMul, Int.reduceNeg, Int.reduceEq, Int.reduceNe, Int.reduceBNe, Int.reduceBEq, Int.reduceDiv]; rfl) | (refine finTupD (vs' := [(bumped a (shift (a.tip + a.tip) d) (a.cap + a.cap) (a.bcap + a.bcap)).dull, .bool (pairOf a (bumped a (shift (a.tip + a.tip) d) (a.cap + a.cap) (a.bcap + a.bcap)))]) ?_ (.cons (.dull (TxD.dull_av _)) (.cons (.dull (.refl _)) .nil)); show resOf _ _ [.cell 6 41, .tmp 7] = _; simp only [go_sem, ↓reduceIte, Nat.reduceLT, Nat.reduceLeDiff, Nat.reduceAdd, Nat.reduceSub, Nat.reduceMul, Nat.reduceEqDiff, Nat.reduceBEq, Nat.reduceMod, Nat.reduceDiv, Int.reduceToNat, reduceCtorEq, Int.reduceLT, Int.reduceLE, Int.reduceGT, Int.reduceGE, Int.reduceAdd, Int.reduceSub, Int.reduceMul, Int.reduceNeg, Int.reduceEq, Int.reduceNe, Int.reduceBNe, Int.reduceBEq, Int.reduceDiv]; rfl))

theorem c_less_no (a : TxD) (h : a.ok) (w : Nat) (d : Int) (hf : ¬ fits2 a) :
    Contract Try.prog 53 [a.av, .int .i64 w, .int .i64 d] (.tup [a.av, .bool false]) := by
  obtain ⟨x, e1, hx, hx2, _, a1⟩ := res_casesB (a.tip + a.tip) (c_ref1_Add a.tip a.tip h.tip h.tip)
  obtain ⟨y, e2, hy, hy2, _, a2⟩ := res_casesB (a.cap + a.cap) (c_ref1_Add a.cap a.cap h.cap h.cap)
  obtain ⟨z, e3, hz, hz2, _, a3⟩ := res_casesB (a.bcap + a.bcap) (c_ref1_Add a.bcap a.bcap h.bcap h.bcap)
  have hbad : e1 = false ∨ e2 = false ∨ e3 = false := by
    obtain ⟨_, _, k1⟩ | ⟨k, _⟩ := hx2
    · obtain ⟨_, _, k2⟩ | ⟨k, _⟩ := hy2
      · obtain ⟨_, _, k3⟩ | ⟨k, _⟩ := hz2
        · exact (hf ⟨k1, k2, k3⟩).elim
        · exact .inr (.inr k)
      · exact .inr (.inl k)
    · exact .inl k
  refine contract_of (C := cf 104 [1, 2, 3, 6, 7, 8, 9, 10, 11, 12, 13, 14, 15, 51, 58] (fun _ => [])) (cf_ok _ _ _) (fn := Try.f53) Try.func53 (by kernel_rfl) rfl (by kernel_rfl) (by simp [cf]) (plain3 a.plain (.int _ _) (.int _ _)) (by decide) (cellsOk (by kernel_rfl)) ?_
  simp only [go_sem, ↓reduceIte, Nat.reduceLT, Nat.reduceLeDiff, Nat.reduceAdd, Nat.reduceSub, Nat.reduceMul, Nat.reduceEqDiff, Nat.reduceBEq, Nat.reduceMod, Nat.reduceDiv, Int.reduceToNat, reduceCtorEq, Int.reduceLT, Int.reduceLE, Int.reduceGT, Int.reduceGE, Int.reduceAdd, Int.reduceSub, Int.reduceMul, Int.reduceNeg, Int.reduceEq, Int.reduceNe, Int.reduceBNe, Int.reduceBEq, Int.reduceDiv, TxD.av, TxD.cells, ints, strs]
  refine ex_call (by exact c_CopyTx a h) ?_
  simp only [go_sem, ↓reduceIte, Nat.reduceLT, Nat.reduceLeDiff, Nat.reduceAdd, Nat.reduceSub, Nat.reduceMul, Nat.reduceEqDiff, Nat.reduceBEq, Nat.reduceMod, Nat.reduceDiv, Int.reduceToNat, reduceCtorEq, Int.reduceLT, Int.reduceLE, Int.reduceGT, Int.reduceGE, Int.reduceAdd, Int.reduceSub, Int.reduceMul, Int.reduceNeg, Int.reduceEq, Int.reduceNe, Int.reduceBNe, Int.reduceBEq, Int.reduceDiv, TxD.av, TxD.cells, ints, strs]
  refine ex_call (by exact a1) ?_
  simp only [go_sem, ↓reduceIte, Nat.reduceLT, Nat.reduceLeDiff, Nat.reduceAdd, Nat.reduceSub, Nat.reduceMul, Nat.reduceEqDiff, Nat.reduceBEq, Nat.reduceMod, Nat.reduceDiv, Int.reduceToNat, reduceCtorEq, Int.reduceLT, Int.reduceLE, Int.reduceGT, Int.reduceGE, Int.reduceAdd, Int.reduceSub, Int.reduceMul, Int.reduceNeg, Int.reduceEq, Int.reduceNe, Int.reduceBNe, Int.reduceBEq, Int.reduceDiv, u]
  refine ex_call (by exact a2) ?_
  simp only [go_sem, ↓reduceIte, Nat.reduceLT, Nat.reduceLeDiff, Nat.reduceAdd, Nat.reduceSub, Nat.reduceMul, Nat.reduceEqDiff, Nat.reduceBEq, Nat.reduceMod, Nat.reduceDiv, Int.reduceToNat, reduceCtorEq, Int.reduceLT, Int.reduceLE, Int.reduceGT, Int.reduceGE, Int.reduceAdd, Int.reduceSub, Int.reduceMul, Int.reduceNeg, Int.reduceEq, Int.reduceNe, Int.reduceBNe, Int.reduceBEq, Int.reduceDiv, u]
  refine ex_call (by exact a3) ?_
  cases e1 <;> cases e2 <;> cases e3
  case' true.true.true => exact absurd hbad (by decide)
  all_goals simp only [go_sem, ↓reduceIte, Nat.reduceLT, Nat.reduceLeDiff, Nat.reduceAdd, Nat.reduceSub, Nat.reduceMul, Nat.reduceEqDiff, Nat.reduceBEq, Nat.reduceMod, Nat.reduceDiv, Int.reduceToNat, reduceCtorEq, Int.reduceLT, Int.reduceLE, Int.reduceGT, Int.reduceGE, Int.reduceAdd, Int.reduceSub, Int.reduceMul, Int.reduceNeg, Int.reduceEq, Int.reduceNe, Int.reduceBNe, Int.reduceBEq, Int.reduceDiv, u]
  all_goals (refine finTupD (vs' := [a.av, .bool false]) ?_ (.cons (.dull (.refl _)) (.cons (.dull (.refl _)) .nil)))
  all_goals (show resOf _ _ [.cell 6 41, .tmp 7] = _)
  all_goals simp only [go_sem, ↓reduceIte, Nat.reduceLT, Nat.reduceLeDiff, Nat.reduceAdd, Nat.reduceSub, Nat.reduceMul, Nat.reduceEqDiff, Nat.reduceBEq, Nat.reduceMod, Nat.reduceDiv, Int.reduceToNat, reduceCtorEq, Int.reduceLT, Int.reduceLE, Int.reduceGT, Int.reduceGE, Int.reduceAdd, Int.reduceSub, Int.reduceMul, Int.reduceNeg, Int.reduceEq, Int.reduceNe, Int.reduceBNe, Int.reduceBEq, Int.reduceDiv, TxD.av, TxD.cells, ints, strs]
  all_goals rfl
end Go.Proofs.Ytgdopacmdjcgfaa.VA
