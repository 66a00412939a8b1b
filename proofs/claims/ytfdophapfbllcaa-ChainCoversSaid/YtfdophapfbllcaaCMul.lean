/- Products of numbers of 256 bits. -/
import Derived.Test.YtfdophapfbllcaaCU256
namespace Go.Proofs.Ytfdophapfbllcaa.VA
set_option maxRecDepth 10000
set_option linter.unusedSimpArgs false
set_option linter.unusedVariables false
set_option maxHeartbeats 4000000

theorem and_mask (x : Nat) (hx : x < 18446744073709551616) : IntKind.u64.wrap ((BitVec.ofInt IntKind.u64.bits (x : Int) &&& BitVec.ofInt IntKind.u64.bits 4294967295).toNat : Int) = ((x % 4294967296 : Nat) : Int) := by
  have e : IntKind.u64.bits = 64 := rfl
  rw [e, show (4294967295 : Int) = ((4294967295 : Nat) : Int) from rfl, ofInt_nat, ofInt_nat, BitVec.toNat_and, BitVec.toNat_ofNat, BitVec.toNat_ofNat, Nat.mod_eq_of_lt (by simpa using hx)]
  have : x &&& 4294967295 % 2 ^ 64 = x % 4294967296 := by
    rw [show (4294967295 % 2 ^ 64 : Nat) = 2 ^ 32 - 1 from rfl, Nat.and_two_pow_sub_one_eq_mod]
  rw [this, wu64 (by omega) (by omega)]
theorem shr32 (x : Nat) : ((x : Int)).fdiv (2 ^ (min 32 IntKind.u64.bits)) = ((x / 4294967296 : Nat) : Int) := by
  rw [show (2 : Int) ^ (min 32 IntKind.u64.bits) = ((4294967296 : Nat) : Int) from by decide, Int.fdiv_eq_ediv_of_nonneg _ (by omega)]
  simp
theorem addw {p q : Nat} (h : p + q < 18446744073709551616) : IntKind.u64.wrap ((p : Int) + q) = ((p + q : Nat) : Int) := by
  rw [IntKind.wrap_u64]; omega
theorem mulw {p q : Nat} (h : p * q < 18446744073709551616) : IntKind.u64.wrap ((p : Int) * q) = ((p * q : Nat) : Int) := by
  rw [IntKind.wrap_u64]; rw [← Int.natCast_mul]; omega
theorem mul64_lo (x y : Nat) : IntKind.u64.wrap ((x : Int) * y) = ((x * y % 18446744073709551616 : Nat) : Int) := by
  rw [IntKind.wrap_u64]; simp
theorem mul_small {x y : Nat} (hx : x < 4294967296) (hy : y < 4294967296) : x * y ≤ 18446744065119617025 := by
  have : x * y ≤ 4294967295 * 4294967295 := Nat.mul_le_mul (by omega) (by omega)
  omega
theorem c_Mul64 (x y : Nat) (hx : x < 18446744073709551616) (hy : y < 18446744073709551616) :
    Contract Try.prog 72 [.int .u64 x, .int .u64 y] (.tup [.int .u64 ((x * y / 18446744073709551616 : Nat) : Int), .int .u64 ((x * y % 18446744073709551616 : Nat) : Int)]) := by
  obtain ⟨a, b, ha, hb, rfl⟩ : ∃ a b, a < 4294967296 ∧ b < 4294967296 ∧ x = a + 4294967296 * b := ⟨x % 4294967296, x / 4294967296, by omega, by omega, by omega⟩
  obtain ⟨c, d, hc, hd, rfl⟩ : ∃ a b, a < 4294967296 ∧ b < 4294967296 ∧ y = a + 4294967296 * b := ⟨y % 4294967296, y / 4294967296, by omega, by omega, by omega⟩
  have e1 := and_mask (a + 4294967296 * b) (by omega)
  have e2 := and_mask (c + 4294967296 * d) (by omega)
  rw [show (a + 4294967296 * b) % 4294967296 = a by omega] at e1
  rw [show (c + 4294967296 * d) % 4294967296 = c by omega] at e2
  have e3 := shr32 (a + 4294967296 * b)
  have e4 := shr32 (c + 4294967296 * d)
  rw [show (a + 4294967296 * b) / 4294967296 = b by omega] at e3
  rw [show (c + 4294967296 * d) / 4294967296 = d by omega] at e4
  have hp : (a + 4294967296 * b) * (c + 4294967296 * d) = a * c + 4294967296 * (b * c) + 4294967296 * (a * d) + 18446744073709551616 * (b * d) := by
    rw [Nat.add_mul, Nat.mul_add, Nat.mul_add, Nat.mul_assoc 4294967296 b c, Nat.mul_left_comm a 4294967296 d, Nat.mul_assoc 4294967296 b, Nat.mul_left_comm b 4294967296 d]
    omega
  have p1 := mul_small ha hc
  have p2 := mul_small hb hc
  have p3 := mul_small ha hd
  have p4 := mul_small hb hd
  refine contract_of (C := cf 51 [0, 1, 4, 5, 6, 7, 8, 9, 10, 11, 12, 13] (fun _ => [])) (cf_ok _ _ _) (fn := Try.f72) Try.func72 (by kernel_rfl) rfl (by kernel_rfl) (by simp [cf]) (plain2 (.int _ _) (.int _ _)) (by decide) (noCell (by kernel_rfl)) ?_
  have m1 := mulw (p := a) (q := c) (by omega)
  have m2 := mulw (p := b) (q := c) (by omega)
  have m3 := mulw (p := a) (q := d) (by omega)
  have m4 := mulw (p := b) (q := d) (by omega)
  have ml := mul64_lo (a + 4294967296 * b) (c + 4294967296 * d)
  have t1 := addw (p := b * c) (q := a * c / 4294967296) (by omega)
  have t2 := and_mask (b * c + a * c / 4294967296) (by omega)
  have t3 := addw (p := (b * c + a * c / 4294967296) % 4294967296) (q := a * d) (by omega)
  have t4 := addw (p := b * d) (q := (b * c + a * c / 4294967296) / 4294967296) (by omega)
  have t5 := addw (p := b * d + (b * c + a * c / 4294967296) / 4294967296) (q := ((b * c + a * c / 4294967296) % 4294967296 + a * d) / 4294967296) (by omega)
  simp only [cf, ex_seq, ex_block, ex_region, ex_ops_nil, ex_ops_cons, ex_ok, ex_need, ex_split_t, ex_split_f, ex_cond, ex_br_t, ex_br_f, ex_skip, ex_label, ex_scope, ex_exit, ex_ret, ex_keep, ex_inBlock_n, ex_inBlock_same, ex_inBlock_e, ex_inBlock_r, ex_code_e, ex_code_r, ex_rounds_e, ex_rounds_r, ex_ord_fin, ex_ord_quiet, ex_ord_one, ex_ord_unlock, ex_ord_lone, ex_ol, ex_oq_t, ex_oq_f, ex_nil, quietOp, loneOp, eltAddr, quietLoad, quietCallee, convQ, u8, moveR, moveTup, AV.isOwn, asU8, stepR, opR, ASt.rd, AV.seen, look, AV.const, AV.nilOf, ASt.wr, ASt.wrTo, R.chk, ASt.put, ASt.putOwn, ins, strike, consIf, keepL, keepV, AV.isBot, startSt, argsAt, allocR, ASt.newVar, AV.leansVar, AV.leans, AV.leansComp, assignR, ASt.take, ASt.takeO, ASt.at, cellAt, AV.compAt, ASt.drop, ASt.setCell, ASt.setCellO, ASt.dropComp, ASt.turn, binR, ASt.wrO, binInt, binAgg, isBoolK, isIntK, isSliceK, isInts, AV.eqInts, unVal, buildGo, partAt, partIn, placeOf, buildEnd, elemIn, elemsGo, elemsEnd, bsR, argOwnRef, argOwn, argImm, argsGo, callEnd, ASt.wrResTo, ASt.wrRes, pickR, boxR, loadOne, loadVar, wrImm, aggPart, AV.isAggV, loadElem, loadElt, loadR, storeOwn, storeRef, storeCells, storeVar, storePart, storeRow, storeElt, storeR, isU8, convBytes, convCont, convR, makeR, optI, cutSl, cutImm, cutStr, delV, ASt.freeVar, cutArr, cutR, addrR, structF, fieldR, idxSl, idxAddrR, idxR, extrOne, extrR, lenCont, lenR, appSrc, appRef, appTo, appR, maxR, fnOf, appKind, callFn, callLen, callApp, callMax, callR, grdO, grdT, TI.zeroVal, TK.isAgg, TK.known, Loc.plain, ASt.keep, ASt.imm, ASt.immRef, AV.isImm, AV.flat, AV.frz, AV.mark, AV.elemsOf, AV.elemsO, ASt.cont, markFrom, putAt, resOf, resTup, resAll, resCons, resOne, resVar, resCells, resTmp, decide_true, decide_false, Bool.and_true, Bool.true_and, Bool.and_false, Bool.false_and, Bool.and_self, Bool.not_true, Bool.not_false, bq_t, bq_f, Bool.false_eq_true, Bool.true_eq_false, ↓reduceIte, Nat.reduceLT, Nat.reduceLeDiff, Nat.reduceAdd, Nat.reduceSub, Nat.reduceMul, Nat.reduceEqDiff, Nat.reduceBEq, Nat.lt_irrefl, Nat.zero_add, Nat.add_zero, Nat.mul_one, Nat.zero_mul, Nat.mul_zero, Nat.reduceMod, Nat.reduceDiv, Nat.zero_le, Nat.le_refl, Nat.beq, Int.reduceToNat, List.length_cons, List.length_nil, Option.isNone_none, Option.isNone_some, Option.bind_some, Option.bind_none, Option.map_some, Option.map_none, List.getElem?_cons_zero, List.getElem?_cons_succ, List.getElem?_nil, List.take_succ_cons, List.take_zero, List.take_nil, List.drop_succ_cons, List.drop_zero, List.drop_nil, List.map_cons, List.map_nil, List.cons_append, List.nil_append, List.append_nil, List.set_cons_zero, List.set_cons_succ, List.headD_cons, List.headD_nil, List.tail_cons, List.tail_nil, List.contains_cons, List.contains_nil, Bool.or_false, Bool.false_or, Bool.or_true, Bool.true_or, BEq.rfl, beq_self_eq_true, Nat.reduceBEq, List.replicate_zero, List.replicate_succ, List.isEmpty_nil, List.size_toArray, Array.isEmpty, List.reverse_nil, List.all_cons, List.all_nil, eq_self, true_and, and_true, false_and, and_false, and_self, not_true_eq_false, not_false_eq_true, reduceCtorEq, Loc.tmp.injEq, Loc.cell.injEq, Loc.comp.injEq, or_true, true_or, or_false, false_or, exists_const, Int.reduceLT, Int.reduceLE, Int.reduceGT, Int.reduceGE, Option.isSome_some, Option.isSome_none, Int.reduceAdd, Int.reduceSub, Int.reduceMul, Int.reduceNeg, Int.reduceEq, Int.reduceNe, Int.reduceBNe, Int.reduceBEq, ne_eq, Int.toNat_zero, Int.reduceDiv, forall_const, Nat.not_lt_zero, Nat.lt_add_one, ti1, ti2, ti3, ti4, ti5, ti6, ti7, ti8, ti9, ti10, ti11, ti12, ti13, ti14, ti21, ti22, ti23, ti24, ti25, ti26, ti27, ti28, ti29, ti30, ti31, ti32, ti33, ti34, ti35, ti36, ti37, ti38, ti39, ti41, ti42, ti44, ti45, ti46, ti47, ti48, ti50, ti52, ti53, ti54, ti55, ti57, ti59, ti60, ti61, ti62, ti63, ti64, ti65, ti66, ti67, ti68, ti69, ti70, ti71, ti72, ti73, ti74, ti75, ti76, ti77, ti78, ti79, ti80, ti81, ti82, ti83, ti84, ti86, ti88, ti89, ti90, ti91, ti92, ti93, ti99, ti100, ti101, ti102, ti103, ti105, ti106, e1, e2, e3, e4, m1, m2, m3, m4, ml, shr32, t1, t2, t3, t4, t5]
  refine finTup ?_
  show resOf _ _ [.tmp 4, .tmp 5] = _
  simp only [cf, ex_seq, ex_block, ex_region, ex_ops_nil, ex_ops_cons, ex_ok, ex_need, ex_split_t, ex_split_f, ex_cond, ex_br_t, ex_br_f, ex_skip, ex_label, ex_scope, ex_exit, ex_ret, ex_keep, ex_inBlock_n, ex_inBlock_same, ex_inBlock_e, ex_inBlock_r, ex_code_e, ex_code_r, ex_rounds_e, ex_rounds_r, ex_ord_fin, ex_ord_quiet, ex_ord_one, ex_ord_unlock, ex_ord_lone, ex_ol, ex_oq_t, ex_oq_f, ex_nil, quietOp, loneOp, eltAddr, quietLoad, quietCallee, convQ, u8, moveR, moveTup, AV.isOwn, asU8, stepR, opR, ASt.rd, AV.seen, look, AV.const, AV.nilOf, ASt.wr, ASt.wrTo, R.chk, ASt.put, ASt.putOwn, ins, strike, consIf, keepL, keepV, AV.isBot, startSt, argsAt, allocR, ASt.newVar, AV.leansVar, AV.leans, AV.leansComp, assignR, ASt.take, ASt.takeO, ASt.at, cellAt, AV.compAt, ASt.drop, ASt.setCell, ASt.setCellO, ASt.dropComp, ASt.turn, binR, ASt.wrO, binInt, binAgg, isBoolK, isIntK, isSliceK, isInts, AV.eqInts, unVal, buildGo, partAt, partIn, placeOf, buildEnd, elemIn, elemsGo, elemsEnd, bsR, argOwnRef, argOwn, argImm, argsGo, callEnd, ASt.wrResTo, ASt.wrRes, pickR, boxR, loadOne, loadVar, wrImm, aggPart, AV.isAggV, loadElem, loadElt, loadR, storeOwn, storeRef, storeCells, storeVar, storePart, storeRow, storeElt, storeR, isU8, convBytes, convCont, convR, makeR, optI, cutSl, cutImm, cutStr, delV, ASt.freeVar, cutArr, cutR, addrR, structF, fieldR, idxSl, idxAddrR, idxR, extrOne, extrR, lenCont, lenR, appSrc, appRef, appTo, appR, maxR, fnOf, appKind, callFn, callLen, callApp, callMax, callR, grdO, grdT, TI.zeroVal, TK.isAgg, TK.known, Loc.plain, ASt.keep, ASt.imm, ASt.immRef, AV.isImm, AV.flat, AV.frz, AV.mark, AV.elemsOf, AV.elemsO, ASt.cont, markFrom, putAt, resOf, resTup, resAll, resCons, resOne, resVar, resCells, resTmp, decide_true, decide_false, Bool.and_true, Bool.true_and, Bool.and_false, Bool.false_and, Bool.and_self, Bool.not_true, Bool.not_false, bq_t, bq_f, Bool.false_eq_true, Bool.true_eq_false, ↓reduceIte, Nat.reduceLT, Nat.reduceLeDiff, Nat.reduceAdd, Nat.reduceSub, Nat.reduceMul, Nat.reduceEqDiff, Nat.reduceBEq, Nat.lt_irrefl, Nat.zero_add, Nat.add_zero, Nat.mul_one, Nat.zero_mul, Nat.mul_zero, Nat.reduceMod, Nat.reduceDiv, Nat.zero_le, Nat.le_refl, Nat.beq, Int.reduceToNat, List.length_cons, List.length_nil, Option.isNone_none, Option.isNone_some, Option.bind_some, Option.bind_none, Option.map_some, Option.map_none, List.getElem?_cons_zero, List.getElem?_cons_succ, List.getElem?_nil, List.take_succ_cons, List.take_zero, List.take_nil, List.drop_succ_cons, List.drop_zero, List.drop_nil, List.map_cons, List.map_nil, List.cons_append, List.nil_append, List.append_nil, List.set_cons_zero, List.set_cons_succ, List.headD_cons, List.headD_nil, List.tail_cons, List.tail_nil, List.contains_cons, List.contains_nil, Bool.or_false, Bool.false_or, Bool.or_true, Bool.true_or, BEq.rfl, beq_self_eq_true, Nat.reduceBEq, List.replicate_zero, List.replicate_succ, List.isEmpty_nil, List.size_toArray, Array.isEmpty, List.reverse_nil, List.all_cons, List.all_nil, eq_self, true_and, and_true, false_and, and_false, and_self, not_true_eq_false, not_false_eq_true, reduceCtorEq, Loc.tmp.injEq, Loc.cell.injEq, Loc.comp.injEq, or_true, true_or, or_false, false_or, exists_const, Int.reduceLT, Int.reduceLE, Int.reduceGT, Int.reduceGE, Option.isSome_some, Option.isSome_none, Int.reduceAdd, Int.reduceSub, Int.reduceMul, Int.reduceNeg, Int.reduceEq, Int.reduceNe, Int.reduceBNe, Int.reduceBEq, ne_eq, Int.toNat_zero, Int.reduceDiv, forall_const, Nat.not_lt_zero, Nat.lt_add_one, ti1, ti2, ti3, ti4, ti5, ti6, ti7, ti8, ti9, ti10, ti11, ti12, ti13, ti14, ti21, ti22, ti23, ti24, ti25, ti26, ti27, ti28, ti29, ti30, ti31, ti32, ti33, ti34, ti35, ti36, ti37, ti38, ti39, ti41, ti42, ti44, ti45, ti46, ti47, ti48, ti50, ti52, ti53, ti54, ti55, ti57, ti59, ti60, ti61, ti62, ti63, ti64, ti65, ti66, ti67, ti68, ti69, ti70, ti71, ti72, ti73, ti74, ti75, ti76, ti77, ti78, ti79, ti80, ti81, ti82, ti83, ti84, ti86, ti88, ti89, ti90, ti91, ti92, ti93, ti99, ti100, ti101, ti102, ti103, ti105, ti106]
  rw [hp, show (a * c + 4294967296 * (b * c) + 4294967296 * (a * d) + 18446744073709551616 * (b * d)) / 18446744073709551616 = b * d + (b * c + a * c / 4294967296) / 4294967296 + ((b * c + a * c / 4294967296) % 4294967296 + a * d) / 4294967296 from by generalize a * c = p at *; generalize b * c = q at *; generalize a * d = r at *; generalize b * d = t at *; omega]

theorem shr0 (x : Nat) : ((x : Int)).fdiv (2 ^ (min 0 IntKind.u64.bits)) = (x : Int) := by
  rw [show (2 : Int) ^ (min 0 IntKind.u64.bits) = 1 from by decide, Int.fdiv_one]
/-- A digit of 32 bits. -/
def dig (n i : Nat) : Nat := n / 2 ^ (32 * i) % 4294967296
theorem c_digit (n i : Nat) (hn : n < U) (hi : i < 8) : Contract Try.prog 66 [u n, .int .i64 i] (.int .u64 (dig n i : Nat)) := by
  obtain ⟨x0, x1, x2, x3, hx0, hx1, hx2, hx3, en⟩ := u_limbs n hn
  have hd : dig n i = (if i / 2 = 0 then x0 else if i / 2 = 1 then x1 else if i / 2 = 2 then x2 else x3) / 2 ^ (32 * (i % 2)) % 4294967296 := by
    unfold dig
    have : i = 0 ∨ i = 1 ∨ i = 2 ∨ i = 3 ∨ i = 4 ∨ i = 5 ∨ i = 6 ∨ i = 7 := by omega
    rcases this with rfl | rfl | rfl | rfl | rfl | rfl | rfl | rfl <;> simp <;> omega
  rw [u_eq hx0 hx1 hx2 hx3 en, hd]
  clear hd en hn
  have : i = 0 ∨ i = 1 ∨ i = 2 ∨ i = 3 ∨ i = 4 ∨ i = 5 ∨ i = 6 ∨ i = 7 := by omega
  refine contract_of (C := cf 14 [1, 2, 4] (fun _ => [])) (cf_ok _ _ _) (fn := Try.f66) Try.func66 (by kernel_rfl) rfl (by kernel_rfl) (by simp [cf]) (plain2 (u4_plain _ _ _ _) (.int _ _)) (by decide) (noCell (by kernel_rfl)) ?_
  rcases this with rfl | rfl | rfl | rfl | rfl | rfl | rfl | rfl
  all_goals simp only [cf, ex_seq, ex_block, ex_region, ex_ops_nil, ex_ops_cons, ex_ok, ex_need, ex_split_t, ex_split_f, ex_cond, ex_br_t, ex_br_f, ex_skip, ex_label, ex_scope, ex_exit, ex_ret, ex_keep, ex_inBlock_n, ex_inBlock_same, ex_inBlock_e, ex_inBlock_r, ex_code_e, ex_code_r, ex_rounds_e, ex_rounds_r, ex_ord_fin, ex_ord_quiet, ex_ord_one, ex_ord_unlock, ex_ord_lone, ex_ol, ex_oq_t, ex_oq_f, ex_nil, quietOp, loneOp, eltAddr, quietLoad, quietCallee, convQ, u8, moveR, moveTup, AV.isOwn, asU8, stepR, opR, ASt.rd, AV.seen, look, AV.const, AV.nilOf, ASt.wr, ASt.wrTo, R.chk, ASt.put, ASt.putOwn, ins, strike, consIf, keepL, keepV, AV.isBot, startSt, argsAt, allocR, ASt.newVar, AV.leansVar, AV.leans, AV.leansComp, assignR, ASt.take, ASt.takeO, ASt.at, cellAt, AV.compAt, ASt.drop, ASt.setCell, ASt.setCellO, ASt.dropComp, ASt.turn, binR, ASt.wrO, binInt, binAgg, isBoolK, isIntK, isSliceK, isInts, AV.eqInts, unVal, buildGo, partAt, partIn, placeOf, buildEnd, elemIn, elemsGo, elemsEnd, bsR, argOwnRef, argOwn, argImm, argsGo, callEnd, ASt.wrResTo, ASt.wrRes, pickR, boxR, loadOne, loadVar, wrImm, aggPart, AV.isAggV, loadElem, loadElt, loadR, storeOwn, storeRef, storeCells, storeVar, storePart, storeRow, storeElt, storeR, isU8, convBytes, convCont, convR, makeR, optI, cutSl, cutImm, cutStr, delV, ASt.freeVar, cutArr, cutR, addrR, structF, fieldR, idxSl, idxAddrR, idxR, extrOne, extrR, lenCont, lenR, appSrc, appRef, appTo, appR, maxR, fnOf, appKind, callFn, callLen, callApp, callMax, callR, grdO, grdT, TI.zeroVal, TK.isAgg, TK.known, Loc.plain, ASt.keep, ASt.imm, ASt.immRef, AV.isImm, AV.flat, AV.frz, AV.mark, AV.elemsOf, AV.elemsO, ASt.cont, markFrom, putAt, resOf, resTup, resAll, resCons, resOne, resVar, resCells, resTmp, decide_true, decide_false, Bool.and_true, Bool.true_and, Bool.and_false, Bool.false_and, Bool.and_self, Bool.not_true, Bool.not_false, bq_t, bq_f, Bool.false_eq_true, Bool.true_eq_false, ↓reduceIte, Nat.reduceLT, Nat.reduceLeDiff, Nat.reduceAdd, Nat.reduceSub, Nat.reduceMul, Nat.reduceEqDiff, Nat.reduceBEq, Nat.lt_irrefl, Nat.zero_add, Nat.add_zero, Nat.mul_one, Nat.zero_mul, Nat.mul_zero, Nat.reduceMod, Nat.reduceDiv, Nat.zero_le, Nat.le_refl, Nat.beq, Int.reduceToNat, List.length_cons, List.length_nil, Option.isNone_none, Option.isNone_some, Option.bind_some, Option.bind_none, Option.map_some, Option.map_none, List.getElem?_cons_zero, List.getElem?_cons_succ, List.getElem?_nil, List.take_succ_cons, List.take_zero, List.take_nil, List.drop_succ_cons, List.drop_zero, List.drop_nil, List.map_cons, List.map_nil, List.cons_append, List.nil_append, List.append_nil, List.set_cons_zero, List.set_cons_succ, List.headD_cons, List.headD_nil, List.tail_cons, List.tail_nil, List.contains_cons, List.contains_nil, Bool.or_false, Bool.false_or, Bool.or_true, Bool.true_or, BEq.rfl, beq_self_eq_true, Nat.reduceBEq, List.replicate_zero, List.replicate_succ, List.isEmpty_nil, List.size_toArray, Array.isEmpty, List.reverse_nil, List.all_cons, List.all_nil, eq_self, true_and, and_true, false_and, and_false, and_self, not_true_eq_false, not_false_eq_true, reduceCtorEq, Loc.tmp.injEq, Loc.cell.injEq, Loc.comp.injEq, or_true, true_or, or_false, false_or, exists_const, Int.reduceLT, Int.reduceLE, Int.reduceGT, Int.reduceGE, Option.isSome_some, Option.isSome_none, Int.reduceAdd, Int.reduceSub, Int.reduceMul, Int.reduceNeg, Int.reduceEq, Int.reduceNe, Int.reduceBNe, Int.reduceBEq, ne_eq, Int.toNat_zero, Int.reduceDiv, forall_const, Nat.not_lt_zero, Nat.lt_add_one, ti1, ti2, ti3, ti4, ti5, ti6, ti7, ti8, ti9, ti10, ti11, ti12, ti13, ti14, ti21, ti22, ti23, ti24, ti25, ti26, ti27, ti28, ti29, ti30, ti31, ti32, ti33, ti34, ti35, ti36, ti37, ti38, ti39, ti41, ti42, ti44, ti45, ti46, ti47, ti48, ti50, ti52, ti53, ti54, ti55, ti57, ti59, ti60, ti61, ti62, ti63, ti64, ti65, ti66, ti67, ti68, ti69, ti70, ti71, ti72, ti73, ti74, ti75, ti76, ti77, ti78, ti79, ti80, ti81, ti82, ti83, ti84, ti86, ti88, ti89, ti90, ti91, ti92, ti93, ti99, ti100, ti101, ti102, ti103, ti105, ti106, Int.cast_ofNat_Int, wi64, Int.reduceTDiv, Int.reduceTMod]
  all_goals refine finOne ?_ (fun _ e => by cases e)
  all_goals show resOf _ _ [.tmp 4] = _
  all_goals simp only [cf, ex_seq, ex_block, ex_region, ex_ops_nil, ex_ops_cons, ex_ok, ex_need, ex_split_t, ex_split_f, ex_cond, ex_br_t, ex_br_f, ex_skip, ex_label, ex_scope, ex_exit, ex_ret, ex_keep, ex_inBlock_n, ex_inBlock_same, ex_inBlock_e, ex_inBlock_r, ex_code_e, ex_code_r, ex_rounds_e, ex_rounds_r, ex_ord_fin, ex_ord_quiet, ex_ord_one, ex_ord_unlock, ex_ord_lone, ex_ol, ex_oq_t, ex_oq_f, ex_nil, quietOp, loneOp, eltAddr, quietLoad, quietCallee, convQ, u8, moveR, moveTup, AV.isOwn, asU8, stepR, opR, ASt.rd, AV.seen, look, AV.const, AV.nilOf, ASt.wr, ASt.wrTo, R.chk, ASt.put, ASt.putOwn, ins, strike, consIf, keepL, keepV, AV.isBot, startSt, argsAt, allocR, ASt.newVar, AV.leansVar, AV.leans, AV.leansComp, assignR, ASt.take, ASt.takeO, ASt.at, cellAt, AV.compAt, ASt.drop, ASt.setCell, ASt.setCellO, ASt.dropComp, ASt.turn, binR, ASt.wrO, binInt, binAgg, isBoolK, isIntK, isSliceK, isInts, AV.eqInts, unVal, buildGo, partAt, partIn, placeOf, buildEnd, elemIn, elemsGo, elemsEnd, bsR, argOwnRef, argOwn, argImm, argsGo, callEnd, ASt.wrResTo, ASt.wrRes, pickR, boxR, loadOne, loadVar, wrImm, aggPart, AV.isAggV, loadElem, loadElt, loadR, storeOwn, storeRef, storeCells, storeVar, storePart, storeRow, storeElt, storeR, isU8, convBytes, convCont, convR, makeR, optI, cutSl, cutImm, cutStr, delV, ASt.freeVar, cutArr, cutR, addrR, structF, fieldR, idxSl, idxAddrR, idxR, extrOne, extrR, lenCont, lenR, appSrc, appRef, appTo, appR, maxR, fnOf, appKind, callFn, callLen, callApp, callMax, callR, grdO, grdT, TI.zeroVal, TK.isAgg, TK.known, Loc.plain, ASt.keep, ASt.imm, ASt.immRef, AV.isImm, AV.flat, AV.frz, AV.mark, AV.elemsOf, AV.elemsO, ASt.cont, markFrom, putAt, resOf, resTup, resAll, resCons, resOne, resVar, resCells, resTmp, decide_true, decide_false, Bool.and_true, Bool.true_and, Bool.and_false, Bool.false_and, Bool.and_self, Bool.not_true, Bool.not_false, bq_t, bq_f, Bool.false_eq_true, Bool.true_eq_false, ↓reduceIte, Nat.reduceLT, Nat.reduceLeDiff, Nat.reduceAdd, Nat.reduceSub, Nat.reduceMul, Nat.reduceEqDiff, Nat.reduceBEq, Nat.lt_irrefl, Nat.zero_add, Nat.add_zero, Nat.mul_one, Nat.zero_mul, Nat.mul_zero, Nat.reduceMod, Nat.reduceDiv, Nat.zero_le, Nat.le_refl, Nat.beq, Int.reduceToNat, List.length_cons, List.length_nil, Option.isNone_none, Option.isNone_some, Option.bind_some, Option.bind_none, Option.map_some, Option.map_none, List.getElem?_cons_zero, List.getElem?_cons_succ, List.getElem?_nil, List.take_succ_cons, List.take_zero, List.take_nil, List.drop_succ_cons, List.drop_zero, List.drop_nil, List.map_cons, List.map_nil, List.cons_append, List.nil_append, List.append_nil, List.set_cons_zero, List.set_cons_succ, List.headD_cons, List.headD_nil, List.tail_cons, List.tail_nil, List.contains_cons, List.contains_nil, Bool.or_false, Bool.false_or, Bool.or_true, Bool.true_or, BEq.rfl, beq_self_eq_true, Nat.reduceBEq, List.replicate_zero, List.replicate_succ, List.isEmpty_nil, List.size_toArray, Array.isEmpty, List.reverse_nil, List.all_cons, List.all_nil, eq_self, true_and, and_true, false_and, and_false, and_self, not_true_eq_false, not_false_eq_true, reduceCtorEq, Loc.tmp.injEq, Loc.cell.injEq, Loc.comp.injEq, or_true, true_or, or_false, false_or, exists_const, Int.reduceLT, Int.reduceLE, Int.reduceGT, Int.reduceGE, Option.isSome_some, Option.isSome_none, Int.reduceAdd, Int.reduceSub, Int.reduceMul, Int.reduceNeg, Int.reduceEq, Int.reduceNe, Int.reduceBNe, Int.reduceBEq, ne_eq, Int.toNat_zero, Int.reduceDiv, forall_const, Nat.not_lt_zero, Nat.lt_add_one, ti1, ti2, ti3, ti4, ti5, ti6, ti7, ti8, ti9, ti10, ti11, ti12, ti13, ti14, ti21, ti22, ti23, ti24, ti25, ti26, ti27, ti28, ti29, ti30, ti31, ti32, ti33, ti34, ti35, ti36, ti37, ti38, ti39, ti41, ti42, ti44, ti45, ti46, ti47, ti48, ti50, ti52, ti53, ti54, ti55, ti57, ti59, ti60, ti61, ti62, ti63, ti64, ti65, ti66, ti67, ti68, ti69, ti70, ti71, ti72, ti73, ti74, ti75, ti76, ti77, ti78, ti79, ti80, ti81, ti82, ti83, ti84, ti86, ti88, ti89, ti90, ti91, ti92, ti93, ti99, ti100, ti101, ti102, ti103, ti105, ti106, shr0, shr32]
  all_goals rw [and_mask _ (by omega)]
  all_goals simp only [Nat.pow_zero, Nat.div_one, Nat.reducePow]

/-! Numbers by their digits. -/
def val (B : Nat) : List Nat → Nat
  | [] => 0
  | a :: l => a + B * val B l
theorem val_set (B : Nat) : ∀ (l : List Nat) (j a v : Nat), l[j]? = some a → val B (l.set j v) + a * B ^ j = val B l + v * B ^ j
  | [], j, a, v, h => by cases h
  | x :: l, 0, a, v, h => by
    simp only [List.getElem?_cons_zero, Option.some.injEq] at h
    subst h
    simp [val]; omega
  | x :: l, j + 1, a, v, h => by
    simp only [List.getElem?_cons_succ] at h
    have ih := val_set B l j a v h
    simp only [List.set_cons_succ, val, Nat.pow_succ]
    have := congrArg (B * ·) ih
    simp only [Nat.mul_add] at this
    have e1 : a * (B ^ j * B) = B * (a * B ^ j) := by rw [← Nat.mul_assoc, Nat.mul_comm]
    have e2 : v * (B ^ j * B) = B * (v * B ^ j) := by rw [← Nat.mul_assoc, Nat.mul_comm]
    omega
theorem val_zero (B n : Nat) : val B (List.replicate n 0) = 0 := by
  induction n with
  | zero => rfl
  | succ n ih => simp [List.replicate_succ, val, ih]
theorem putAt_set {α : Type} (f : α → AV) (l : List α) (j : Nat) (v : α) (h : j < l.length) : putAt (l.map f) j [f v] = (l.set j v).map f := by
  unfold putAt
  rw [List.map_set, List.set_eq_take_append_cons_drop, if_pos (by simpa using h)]
  simp
/-- A digit of a number. -/
def dg (B n i : Nat) : Nat := n / B ^ i % B
theorem dg_step (B n k : Nat) : n % B ^ (k + 1) = n % B ^ k + dg B n k * B ^ k := by
  unfold dg
  rw [Nat.pow_succ, Nat.mod_mul, Nat.mul_comm]
/-- One step of a product, by digits. -/
theorem mac {B V V' P out s c c' x y : Nat} (hs : s + B * c' = out + x * y + c) (hV : V' + out * P = V + s * P) : V' + c' * (P * B) = V + c * P + x * y * P := by
  have := congrArg (· * P) hs
  simp only [Nat.add_mul] at this
  have e : B * c' * P = c' * (P * B) := by rw [Nat.mul_comm B c', Nat.mul_assoc, Nat.mul_comm B P]
  omega
end Go.Proofs.Ytfdophapfbllcaa.VA
