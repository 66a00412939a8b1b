/- Products of numbers of 256 bits. The page's product, digit by digit. The program's product, limb by limb. Marks: what mark.Mark, mark.Take, mark.Text and the page's own answers do. MarkTells: the law's function answers true for every list of texts. Blobs: what blob.Hash, Fits, Gas and the page's own answers do. Numbers as bytes, the highest first: plain laws. Numbers of 256 bits: how many bits, bytes. Transactions as data; what they cost. Transactions among the data that a law is asked with. Rows of transactions among the data that a law is asked with. Which transactions may be, by the page; their costs; pairs. Copies of rows of marks and of texts. -/
import Derived.Test.YtpepfhbfooeoeaaT1
import Derived.Test.YtpepfhbfooeoeaaT2
import Derived.Test.YtpepfhbfooeoeaaT3
set_option linter.unusedSimpArgs false
set_option linter.unusedVariables false
section
namespace Go.Proofs.Ytpepfhbfooeoeaa.VA
set_option maxRecDepth 10000
set_option maxHeartbeats 4000000

theorem and_mask (x : Nat) (hx : x < 18446744073709551616) : IntKind.u64.wrap ((BitVec.ofInt IntKind.u64.bits (x : Int) &&& BitVec.ofInt IntKind.u64.bits 4294967295).toNat : Int) = ((x % 4294967296 : Nat) : Int) := by
  have e : IntKind.u64.bits = 64 := rfl
  rw [e, show (4294967295 : Int) = ((4294967295 : Nat) : Int) from rfl, ofInt_nat, ofInt_nat, BitVec.toNat_and, BitVec.toNat_ofNat, BitVec.toNat_ofNat, Nat.mod_eq_of_lt (by simpa using hx)]
  have : x &&& 4294967295 % 2 ^ 64 = x % 4294967296 := by
    rw [show (4294967295 % 2 ^ 64 : Nat) = 2 ^ 32 - 1 from rfl, Nat.and_two_pow_sub_one_eq_mod]
  rw [this, wu64 (by omega) (by omega)]
theorem shr32 (x : Nat) : ((x : Int)).fdiv (2 ^ (min 32 IntKind.u64.bits)) = ((x / 4294967296 : Nat) : Int) := by
  rw [show (2 : Int) ^ (min 32 IntKind.u64.bits) = ((4294967296 : Nat) : Int) from by decide, Int.fdiv_eq_ediv_of_nonneg _ (by omega)]
  simp
theorem addw {p q : Nat} (h : p + q < 18446744073709551616) : IntKind.u64.wrap ((p : Int) + q) = ((p + q : Nat) : Int) := by
  rw [IntKind.wrap_u64]; omega
theorem mulw {p q : Nat} (h : p * q < 18446744073709551616) : IntKind.u64.wrap ((p : Int) * q) = ((p * q : Nat) : Int) := by
  rw [IntKind.wrap_u64]; rw [← Int.natCast_mul]; omega
theorem mul64_lo (x y : Nat) : IntKind.u64.wrap ((x : Int) * y) = ((x * y % 18446744073709551616 : Nat) : Int) := by
  rw [IntKind.wrap_u64]; simp
theorem mul_small {x y : Nat} (hx : x < 4294967296) (hy : y < 4294967296) : x * y ≤ 18446744065119617025 := by
  have : x * y ≤ 4294967295 * 4294967295 := Nat.mul_le_mul (by omega) (by omega)
  omega
theorem c_Mul64 (x y : Nat) (hx : x < 18446744073709551616) (hy : y < 18446744073709551616) :
    Contract Try.prog 142 [.int .u64 x, .int .u64 y] (.tup [.int .u64 ((x * y / 18446744073709551616 : Nat) : Int), .int .u64 ((x * y % 18446744073709551616 : Nat) : Int)]) := by
  obtain ⟨a, b, ha, hb, rfl⟩ : ∃ a b, a < 4294967296 ∧ b < 4294967296 ∧ x = a + 4294967296 * b := ⟨x % 4294967296, x / 4294967296, by omega, by omega, by omega⟩
  obtain ⟨c, d, hc, hd, rfl⟩ : ∃ a b, a < 4294967296 ∧ b < 4294967296 ∧ y = a + 4294967296 * b := ⟨y % 4294967296, y / 4294967296, by omega, by omega, by omega⟩
  have e1 := and_mask (a + 4294967296 * b) (by omega)
  have e2 := and_mask (c + 4294967296 * d) (by omega)
  rw [show (a + 4294967296 * b) % 4294967296 = a by omega] at e1
  rw [show (c + 4294967296 * d) % 4294967296 = c by omega] at e2
  have e3 := shr32 (a + 4294967296 * b)
  have e4 := shr32 (c + 4294967296 * d)
  rw [show (a + 4294967296 * b) / 4294967296 = b by omega] at e3
  rw [show (c + 4294967296 * d) / 4294967296 = d by omega] at e4
  have hp : (a + 4294967296 * b) * (c + 4294967296 * d) = a * c + 4294967296 * (b * c) + 4294967296 * (a * d) + 18446744073709551616 * (b * d) := by
    rw [Nat.add_mul, Nat.mul_add, Nat.mul_add, Nat.mul_assoc 4294967296 b c, Nat.mul_left_comm a 4294967296 d, Nat.mul_assoc 4294967296 b, Nat.mul_left_comm b 4294967296 d]
    omega
  have p1 := mul_small ha hc
  have p2 := mul_small hb hc
  have p3 := mul_small ha hd
  have p4 := mul_small hb hd
  refine contract_of (C := cf 51 [0, 1, 4, 5, 6, 7, 8, 9, 10, 11, 12, 13] (fun _ => [])) (cf_ok _ _ _) (fn := Try.f142) Try.func142 (by kernel_rfl) rfl (by kernel_rfl) (by simp [cf]) (plain2 (.int _ _) (.int _ _)) (by decide) (noCell (by kernel_rfl)) ?_
  have m1 := mulw (p := a) (q := c) (by omega)
  have m2 := mulw (p := b) (q := c) (by omega)
  have m3 := mulw (p := a) (q := d) (by omega)
  have m4 := mulw (p := b) (q := d) (by omega)
  have ml := mul64_lo (a + 4294967296 * b) (c + 4294967296 * d)
  have t1 := addw (p := b * c) (q := a * c / 4294967296) (by omega)
  have t2 := and_mask (b * c + a * c / 4294967296) (by omega)
  have t3 := addw (p := (b * c + a * c / 4294967296) % 4294967296) (q := a * d) (by omega)
  have t4 := addw (p := b * d) (q := (b * c + a * c / 4294967296) / 4294967296) (by omega)
  have t5 := addw (p := b * d + (b * c + a * c / 4294967296) / 4294967296) (q := ((b * c + a * c / 4294967296) % 4294967296 + a * d) / 4294967296) (by omega)
  simp only [cf, ex_seq, ex_block, ex_region, ex_ops_nil, ex_ops_cons, ex_ok, ex_need, ex_split_t, ex_split_f, ex_cond, ex_br_t, ex_br_f, ex_skip, ex_label, ex_scope, ex_exit, ex_ret, ex_keep, ex_inBlock_n, ex_inBlock_same, ex_inBlock_e, ex_inBlock_r, ex_code_e, ex_code_r, ex_rounds_e, ex_rounds_r, ex_ord_fin, ex_ord_quiet, ex_ord_one, ex_ord_unlock, ex_ord_lone, ex_ol, ex_oq_t, ex_oq_f, ex_nil, quietOp, loneOp, eltAddr, quietLoad, quietCallee, convQ, u8, moveR, moveTup, AV.isOwn, asU8, stepR, opR, ASt.rd, AV.seen, look, AV.const, AV.constC, AV.constG, AV.constCs, AV.constA, AV.nilOf, ASt.wr, Cfg.may, Cfg.round, roundQ, AV.dropR, AV.dropA, ASt.wrTo, R.chk, ASt.put, ASt.putOwn, ins, strike, consIf, keepL, keepV, AV.isBot, startSt, argsAt, allocR, ASt.newVar, AV.leansVar, AV.leans, AV.leansComp, assignR, ASt.take, ASt.takeO, ASt.at, cellAt, AV.compAt, ASt.drop, ASt.setCell, ASt.setCellO, ASt.dropComp, ASt.turn, binR, ASt.wrO, binInt, binAgg, isBoolK, isIntK, isSliceK, isFuncK, isInts, AV.eqInts, unVal, buildGo, partAt, partIn, placeOf, buildEnd, elemIn, elemsGo, elemsEnd, bsR, argOwnRef, argOwn, argImm, argsGo, callEnd, ASt.wrResTo, ASt.wrRes, pickR, boxR, loadOne, loadVar, wrImm, aggPart, AV.isAggV, loadElem, loadElt, loadR, storeOwn, AV.redir, redir, storeAl, storeRef, storeCells, storeVar, storePart, storeRow, storeElt, storeR, isU8, convBytes, convCont, convR, makeR, optI, cutSl, cutImm, cutStr, delV, ASt.freeVar, mkFnR, capR, capV, cutArr, cutR, addrR, structF, fieldR, idxSl, idxAddrR, idxR, extrOne, extrR, lenCont, lenR, appSrc, appRef, appTo, appR, maxR, fnOf, appKind, callFn, callLen, callApp, callMax, callR, grdO, grdT, TI.zeroVal, TK.isAgg, TK.known, Loc.plain, ASt.keep, ASt.imm, ASt.immRef, AV.isImm, AV.flat, AV.frz, AV.frz0, AV.mark, AV.elemsOf, AV.elemsO, ASt.cont, markFrom, putAt, resOf, resTup, resAll, resCons, resOne, resVar, resCells, resTmp, decide_true, decide_false, Bool.and_true, Bool.true_and, Bool.and_false, Bool.false_and, Bool.and_self, Bool.not_true, Bool.not_false, bq_t, bq_f, Bool.false_eq_true, Bool.true_eq_false, ↓reduceIte, Nat.reduceLT, Nat.reduceLeDiff, Nat.reduceAdd, Nat.reduceSub, Nat.reduceMul, Nat.reduceEqDiff, Nat.reduceBEq, Nat.lt_irrefl, Nat.zero_add, Nat.add_zero, Nat.mul_one, Nat.zero_mul, Nat.mul_zero, Nat.reduceMod, Nat.reduceDiv, Nat.zero_le, Nat.le_refl, Nat.beq, Int.reduceToNat, List.length_cons, List.length_nil, Option.isNone_none, Option.isNone_some, Option.bind_some, Option.bind_none, Option.map_some, Option.map_none, List.getElem?_cons_zero, List.getElem?_cons_succ, List.getElem?_nil, List.take_succ_cons, List.take_zero, List.take_nil, List.drop_succ_cons, List.drop_zero, List.drop_nil, List.map_cons, List.map_nil, List.cons_append, List.nil_append, List.append_nil, List.set_cons_zero, List.set_cons_succ, List.headD_cons, List.headD_nil, List.tail_cons, List.tail_nil, List.contains_cons, List.contains_nil, Bool.or_false, Bool.false_or, Bool.or_true, Bool.true_or, BEq.rfl, beq_self_eq_true, Nat.reduceBEq, List.replicate_zero, List.replicate_succ, List.isEmpty_nil, List.size_toArray, Array.isEmpty, List.reverse_nil, List.all_cons, List.all_nil, eq_self, true_and, and_true, false_and, and_false, and_self, not_true_eq_false, not_false_eq_true, reduceCtorEq, Loc.tmp.injEq, Loc.cell.injEq, Loc.comp.injEq, or_true, true_or, or_false, false_or, exists_const, Int.reduceLT, Int.reduceLE, Int.reduceGT, Int.reduceGE, Option.isSome_some, Option.isSome_none, Int.reduceAdd, Int.reduceSub, Int.reduceMul, Int.reduceNeg, Int.reduceEq, Int.reduceNe, Int.reduceBNe, Int.reduceBEq, ne_eq, Int.toNat_zero, Int.reduceDiv, forall_const, Nat.not_lt_zero, Nat.lt_add_one, ti1, ti2, ti3, ti4, ti5, ti6, ti7, ti8, ti9, ti10, ti11, ti12, ti13, ti14, ti21, ti22, ti23, ti24, ti25, ti26, ti27, ti28, ti29, ti30, ti31, ti32, ti33, ti34, ti35, ti37, ti38, ti39, ti40, ti41, ti42, ti43, ti45, ti46, ti47, ti48, ti49, ti50, ti51, ti52, ti53, ti55, ti56, ti58, ti59, ti60, ti61, ti62, ti64, ti66, ti67, ti69, ti70, ti71, ti72, ti73, ti74, ti75, ti76, ti77, ti78, ti79, ti81, ti82, ti83, ti85, ti86, ti87, ti88, ti89, ti90, ti92, ti93, ti94, ti95, ti96, ti98, ti100, ti101, ti102, ti103, ti104, ti105, ti107, ti108, ti109, ti110, ti111, ti112, ti113, ti114, ti115, ti116, ti117, ti118, ti119, ti120, ti121, ti122, ti123, ti125, ti127, ti128, ti129, ti130, ti131, ti132, ti133, ti134, ti135, ti136, ti137, ti138, ti139, ti141, ti142, ti143, ti144, ti145, ti146, ti147, ti148, ti150, ti151, ti152, ti153, ti154, ti155, ti156, ti157, ti158, ti159, ti160, ti161, ti162, ti163, ti164, ti165, ti166, ti167, ti168, ti169, ti170, ti171, ti172, ti173, ti174, ti175, ti176, ti177, ti178, ti184, ti185, ti186, ti187, ti188, ti190, ti191, e1, e2, e3, e4, m1, m2, m3, m4, ml, shr32, t1, t2, t3, t4, t5]
  refine finTup ?_
  show resOf _ _ [.tmp 4, .tmp 5] = _
  simp only [cf, ex_seq, ex_block, ex_region, ex_ops_nil, ex_ops_cons, ex_ok, ex_need, ex_split_t, ex_split_f, ex_cond, ex_br_t, ex_br_f, ex_skip, ex_label, ex_scope, ex_exit, ex_ret, ex_keep, ex_inBlock_n, ex_inBlock_same, ex_inBlock_e, ex_inBlock_r, ex_code_e, ex_code_r, ex_rounds_e, ex_rounds_r, ex_ord_fin, ex_ord_quiet, ex_ord_one, ex_ord_unlock, ex_ord_lone, ex_ol, ex_oq_t, ex_oq_f, ex_nil, quietOp, loneOp, eltAddr, quietLoad, quietCallee, convQ, u8, moveR, moveTup, AV.isOwn, asU8, stepR, opR, ASt.rd, AV.seen, look, AV.const, AV.constC, AV.constG, AV.constCs, AV.constA, AV.nilOf, ASt.wr, Cfg.may, Cfg.round, roundQ, AV.dropR, AV.dropA, ASt.wrTo, R.chk, ASt.put, ASt.putOwn, ins, strike, consIf, keepL, keepV, AV.isBot, startSt, argsAt, allocR, ASt.newVar, AV.leansVar, AV.leans, AV.leansComp, assignR, ASt.take, ASt.takeO, ASt.at, cellAt, AV.compAt, ASt.drop, ASt.setCell, ASt.setCellO, ASt.dropComp, ASt.turn, binR, ASt.wrO, binInt, binAgg, isBoolK, isIntK, isSliceK, isFuncK, isInts, AV.eqInts, unVal, buildGo, partAt, partIn, placeOf, buildEnd, elemIn, elemsGo, elemsEnd, bsR, argOwnRef, argOwn, argImm, argsGo, callEnd, ASt.wrResTo, ASt.wrRes, pickR, boxR, loadOne, loadVar, wrImm, aggPart, AV.isAggV, loadElem, loadElt, loadR, storeOwn, AV.redir, redir, storeAl, storeRef, storeCells, storeVar, storePart, storeRow, storeElt, storeR, isU8, convBytes, convCont, convR, makeR, optI, cutSl, cutImm, cutStr, delV, ASt.freeVar, mkFnR, capR, capV, cutArr, cutR, addrR, structF, fieldR, idxSl, idxAddrR, idxR, extrOne, extrR, lenCont, lenR, appSrc, appRef, appTo, appR, maxR, fnOf, appKind, callFn, callLen, callApp, callMax, callR, grdO, grdT, TI.zeroVal, TK.isAgg, TK.known, Loc.plain, ASt.keep, ASt.imm, ASt.immRef, AV.isImm, AV.flat, AV.frz, AV.frz0, AV.mark, AV.elemsOf, AV.elemsO, ASt.cont, markFrom, putAt, resOf, resTup, resAll, resCons, resOne, resVar, resCells, resTmp, decide_true, decide_false, Bool.and_true, Bool.true_and, Bool.and_false, Bool.false_and, Bool.and_self, Bool.not_true, Bool.not_false, bq_t, bq_f, Bool.false_eq_true, Bool.true_eq_false, ↓reduceIte, Nat.reduceLT, Nat.reduceLeDiff, Nat.reduceAdd, Nat.reduceSub, Nat.reduceMul, Nat.reduceEqDiff, Nat.reduceBEq, Nat.lt_irrefl, Nat.zero_add, Nat.add_zero, Nat.mul_one, Nat.zero_mul, Nat.mul_zero, Nat.reduceMod, Nat.reduceDiv, Nat.zero_le, Nat.le_refl, Nat.beq, Int.reduceToNat, List.length_cons, List.length_nil, Option.isNone_none, Option.isNone_some, Option.bind_some, Option.bind_none, Option.map_some, Option.map_none, List.getElem?_cons_zero, List.getElem?_cons_succ, List.getElem?_nil, List.take_succ_cons, List.take_zero, List.take_nil, List.drop_succ_cons, List.drop_zero, List.drop_nil, List.map_cons, List.map_nil, List.cons_append, List.nil_append, List.append_nil, List.set_cons_zero, List.set_cons_succ, List.headD_cons, List.headD_nil, List.tail_cons, List.tail_nil, List.contains_cons, List.contains_nil, Bool.or_false, Bool.false_or, Bool.or_true, Bool.true_or, BEq.rfl, beq_self_eq_true, Nat.reduceBEq, List.replicate_zero, List.replicate_succ, List.isEmpty_nil, List.size_toArray, Array.isEmpty, List.reverse_nil, List.all_cons, List.all_nil, eq_self, true_and, and_true, false_and, and_false, and_self, not_true_eq_false, not_false_eq_true, reduceCtorEq, Loc.tmp.injEq, Loc.cell.injEq, Loc.comp.injEq, or_true, true_or, or_false, false_or, exists_const, Int.reduceLT, Int.reduceLE, Int.reduceGT, Int.reduceGE, Option.isSome_some, Option.isSome_none, Int.reduceAdd, Int.reduceSub, Int.reduceMul, Int.reduceNeg, Int.reduceEq, Int.reduceNe, Int.reduceBNe, Int.reduceBEq, ne_eq, Int.toNat_zero, Int.reduceDiv, forall_const, Nat.not_lt_zero, Nat.lt_add_one, ti1, ti2, ti3, ti4, ti5, ti6, ti7, ti8, ti9, ti10, ti11, ti12, ti13, ti14, ti21, ti22, ti23, ti24, ti25, ti26, ti27, ti28, ti29, ti30, ti31, ti32, ti33, ti34, ti35, ti37, ti38, ti39, ti40, ti41, ti42, ti43, ti45, ti46, ti47, ti48, ti49, ti50, ti51, ti52, ti53, ti55, ti56, ti58, ti59, ti60, ti61, ti62, ti64, ti66, ti67, ti69, ti70, ti71, ti72, ti73, ti74, ti75, ti76, ti77, ti78, ti79, ti81, ti82, ti83, ti85, ti86, ti87, ti88, ti89, ti90, ti92, ti93, ti94, ti95, ti96, ti98, ti100, ti101, ti102, ti103, ti104, ti105, ti107, ti108, ti109, ti110, ti111, ti112, ti113, ti114, ti115, ti116, ti117, ti118, ti119, ti120, ti121, ti122, ti123, ti125, ti127, ti128, ti129, ti130, ti131, ti132, ti133, ti134, ti135, ti136, ti137, ti138, ti139, ti141, ti142, ti143, ti144, ti145, ti146, ti147, ti148, ti150, ti151, ti152, ti153, ti154, ti155, ti156, ti157, ti158, ti159, ti160, ti161, ti162, ti163, ti164, ti165, ti166, ti167, ti168, ti169, ti170, ti171, ti172, ti173, ti174, ti175, ti176, ti177, ti178, ti184, ti185, ti186, ti187, ti188, ti190, ti191]
  rw [hp, show (a * c + 4294967296 * (b * c) + 4294967296 * (a * d) + 18446744073709551616 * (b * d)) / 18446744073709551616 = b * d + (b * c + a * c / 4294967296) / 4294967296 + ((b * c + a * c / 4294967296) % 4294967296 + a * d) / 4294967296 from by generalize a * c = p at *; generalize b * c = q at *; generalize a * d = r at *; generalize b * d = t at *; omega]

theorem shr0 (x : Nat) : ((x : Int)).fdiv (2 ^ (min 0 IntKind.u64.bits)) = (x : Int) := by
  rw [show (2 : Int) ^ (min 0 IntKind.u64.bits) = 1 from by decide, Int.fdiv_one]
/-- A digit of 32 bits. -/
def dig (n i : Nat) : Nat := n / 2 ^ (32 * i) % 4294967296
theorem c_digit (n i : Nat) (hn : n < U) (hi : i < 8) : Contract Try.prog 134 [u n, .int .i64 i] (.int .u64 (dig n i : Nat)) := by
  obtain ⟨x0, x1, x2, x3, hx0, hx1, hx2, hx3, en⟩ := u_limbs n hn
  have hd : dig n i = (if i / 2 = 0 then x0 else if i / 2 = 1 then x1 else if i / 2 = 2 then x2 else x3) / 2 ^ (32 * (i % 2)) % 4294967296 := by
    unfold dig
    have : i = 0 ∨ i = 1 ∨ i = 2 ∨ i = 3 ∨ i = 4 ∨ i = 5 ∨ i = 6 ∨ i = 7 := by omega
    rcases this with rfl | rfl | rfl | rfl | rfl | rfl | rfl | rfl <;> simp <;> omega
  rw [u_eq hx0 hx1 hx2 hx3 en, hd]
  clear hd en hn
  have : i = 0 ∨ i = 1 ∨ i = 2 ∨ i = 3 ∨ i = 4 ∨ i = 5 ∨ i = 6 ∨ i = 7 := by omega
  refine contract_of (C := cf 14 [1, 2, 4] (fun _ => [])) (cf_ok _ _ _) (fn := Try.f134) Try.func134 (by kernel_rfl) rfl (by kernel_rfl) (by simp [cf]) (plain2 (u4_plain _ _ _ _) (.int _ _)) (by decide) (noCell (by kernel_rfl)) ?_
  rcases this with rfl | rfl | rfl | rfl | rfl | rfl | rfl | rfl
  all_goals simp only [cf, ex_seq, ex_block, ex_region, ex_ops_nil, ex_ops_cons, ex_ok, ex_need, ex_split_t, ex_split_f, ex_cond, ex_br_t, ex_br_f, ex_skip, ex_label, ex_scope, ex_exit, ex_ret, ex_keep, ex_inBlock_n, ex_inBlock_same, ex_inBlock_e, ex_inBlock_r, ex_code_e, ex_code_r, ex_rounds_e, ex_rounds_r, ex_ord_fin, ex_ord_quiet, ex_ord_one, ex_ord_unlock, ex_ord_lone, ex_ol, ex_oq_t, ex_oq_f, ex_nil, quietOp, loneOp, eltAddr, quietLoad, quietCallee, convQ, u8, moveR, moveTup, AV.isOwn, asU8, stepR, opR, ASt.rd, AV.seen, look, AV.const, AV.constC, AV.constG, AV.constCs, AV.constA, AV.nilOf, ASt.wr, Cfg.may, Cfg.round, roundQ, AV.dropR, AV.dropA, ASt.wrTo, R.chk, ASt.put, ASt.putOwn, ins, strike, consIf, keepL, keepV, AV.isBot, startSt, argsAt, allocR, ASt.newVar, AV.leansVar, AV.leans, AV.leansComp, assignR, ASt.take, ASt.takeO, ASt.at, cellAt, AV.compAt, ASt.drop, ASt.setCell, ASt.setCellO, ASt.dropComp, ASt.turn, binR, ASt.wrO, binInt, binAgg, isBoolK, isIntK, isSliceK, isFuncK, isInts, AV.eqInts, unVal, buildGo, partAt, partIn, placeOf, buildEnd, elemIn, elemsGo, elemsEnd, bsR, argOwnRef, argOwn, argImm, argsGo, callEnd, ASt.wrResTo, ASt.wrRes, pickR, boxR, loadOne, loadVar, wrImm, aggPart, AV.isAggV, loadElem, loadElt, loadR, storeOwn, AV.redir, redir, storeAl, storeRef, storeCells, storeVar, storePart, storeRow, storeElt, storeR, isU8, convBytes, convCont, convR, makeR, optI, cutSl, cutImm, cutStr, delV, ASt.freeVar, mkFnR, capR, capV, cutArr, cutR, addrR, structF, fieldR, idxSl, idxAddrR, idxR, extrOne, extrR, lenCont, lenR, appSrc, appRef, appTo, appR, maxR, fnOf, appKind, callFn, callLen, callApp, callMax, callR, grdO, grdT, TI.zeroVal, TK.isAgg, TK.known, Loc.plain, ASt.keep, ASt.imm, ASt.immRef, AV.isImm, AV.flat, AV.frz, AV.frz0, AV.mark, AV.elemsOf, AV.elemsO, ASt.cont, markFrom, putAt, resOf, resTup, resAll, resCons, resOne, resVar, resCells, resTmp, decide_true, decide_false, Bool.and_true, Bool.true_and, Bool.and_false, Bool.false_and, Bool.and_self, Bool.not_true, Bool.not_false, bq_t, bq_f, Bool.false_eq_true, Bool.true_eq_false, ↓reduceIte, Nat.reduceLT, Nat.reduceLeDiff, Nat.reduceAdd, Nat.reduceSub, Nat.reduceMul, Nat.reduceEqDiff, Nat.reduceBEq, Nat.lt_irrefl, Nat.zero_add, Nat.add_zero, Nat.mul_one, Nat.zero_mul, Nat.mul_zero, Nat.reduceMod, Nat.reduceDiv, Nat.zero_le, Nat.le_refl, Nat.beq, Int.reduceToNat, List.length_cons, List.length_nil, Option.isNone_none, Option.isNone_some, Option.bind_some, Option.bind_none, Option.map_some, Option.map_none, List.getElem?_cons_zero, List.getElem?_cons_succ, List.getElem?_nil, List.take_succ_cons, List.take_zero, List.take_nil, List.drop_succ_cons, List.drop_zero, List.drop_nil, List.map_cons, List.map_nil, List.cons_append, List.nil_append, List.append_nil, List.set_cons_zero, List.set_cons_succ, List.headD_cons, List.headD_nil, List.tail_cons, List.tail_nil, List.contains_cons, List.contains_nil, Bool.or_false, Bool.false_or, Bool.or_true, Bool.true_or, BEq.rfl, beq_self_eq_true, Nat.reduceBEq, List.replicate_zero, List.replicate_succ, List.isEmpty_nil, List.size_toArray, Array.isEmpty, List.reverse_nil, List.all_cons, List.all_nil, eq_self, true_and, and_true, false_and, and_false, and_self, not_true_eq_false, not_false_eq_true, reduceCtorEq, Loc.tmp.injEq, Loc.cell.injEq, Loc.comp.injEq, or_true, true_or, or_false, false_or, exists_const, Int.reduceLT, Int.reduceLE, Int.reduceGT, Int.reduceGE, Option.isSome_some, Option.isSome_none, Int.reduceAdd, Int.reduceSub, Int.reduceMul, Int.reduceNeg, Int.reduceEq, Int.reduceNe, Int.reduceBNe, Int.reduceBEq, ne_eq, Int.toNat_zero, Int.reduceDiv, forall_const, Nat.not_lt_zero, Nat.lt_add_one, ti1, ti2, ti3, ti4, ti5, ti6, ti7, ti8, ti9, ti10, ti11, ti12, ti13, ti14, ti21, ti22, ti23, ti24, ti25, ti26, ti27, ti28, ti29, ti30, ti31, ti32, ti33, ti34, ti35, ti37, ti38, ti39, ti40, ti41, ti42, ti43, ti45, ti46, ti47, ti48, ti49, ti50, ti51, ti52, ti53, ti55, ti56, ti58, ti59, ti60, ti61, ti62, ti64, ti66, ti67, ti69, ti70, ti71, ti72, ti73, ti74, ti75, ti76, ti77, ti78, ti79, ti81, ti82, ti83, ti85, ti86, ti87, ti88, ti89, ti90, ti92, ti93, ti94, ti95, ti96, ti98, ti100, ti101, ti102, ti103, ti104, ti105, ti107, ti108, ti109, ti110, ti111, ti112, ti113, ti114, ti115, ti116, ti117, ti118, ti119, ti120, ti121, ti122, ti123, ti125, ti127, ti128, ti129, ti130, ti131, ti132, ti133, ti134, ti135, ti136, ti137, ti138, ti139, ti141, ti142, ti143, ti144, ti145, ti146, ti147, ti148, ti150, ti151, ti152, ti153, ti154, ti155, ti156, ti157, ti158, ti159, ti160, ti161, ti162, ti163, ti164, ti165, ti166, ti167, ti168, ti169, ti170, ti171, ti172, ti173, ti174, ti175, ti176, ti177, ti178, ti184, ti185, ti186, ti187, ti188, ti190, ti191, Int.cast_ofNat_Int, wi64, Int.reduceTDiv, Int.reduceTMod]
  all_goals refine finOne ?_ (fun _ e => by cases e)
  all_goals show resOf _ _ [.tmp 4] = _
  all_goals simp only [cf, ex_seq, ex_block, ex_region, ex_ops_nil, ex_ops_cons, ex_ok, ex_need, ex_split_t, ex_split_f, ex_cond, ex_br_t, ex_br_f, ex_skip, ex_label, ex_scope, ex_exit, ex_ret, ex_keep, ex_inBlock_n, ex_inBlock_same, ex_inBlock_e, ex_inBlock_r, ex_code_e, ex_code_r, ex_rounds_e, ex_rounds_r, ex_ord_fin, ex_ord_quiet, ex_ord_one, ex_ord_unlock, ex_ord_lone, ex_ol, ex_oq_t, ex_oq_f, ex_nil, quietOp, loneOp, eltAddr, quietLoad, quietCallee, convQ, u8, moveR, moveTup, AV.isOwn, asU8, stepR, opR, ASt.rd, AV.seen, look, AV.const, AV.constC, AV.constG, AV.constCs, AV.constA, AV.nilOf, ASt.wr, Cfg.may, Cfg.round, roundQ, AV.dropR, AV.dropA, ASt.wrTo, R.chk, ASt.put, ASt.putOwn, ins, strike, consIf, keepL, keepV, AV.isBot, startSt, argsAt, allocR, ASt.newVar, AV.leansVar, AV.leans, AV.leansComp, assignR, ASt.take, ASt.takeO, ASt.at, cellAt, AV.compAt, ASt.drop, ASt.setCell, ASt.setCellO, ASt.dropComp, ASt.turn, binR, ASt.wrO, binInt, binAgg, isBoolK, isIntK, isSliceK, isFuncK, isInts, AV.eqInts, unVal, buildGo, partAt, partIn, placeOf, buildEnd, elemIn, elemsGo, elemsEnd, bsR, argOwnRef, argOwn, argImm, argsGo, callEnd, ASt.wrResTo, ASt.wrRes, pickR, boxR, loadOne, loadVar, wrImm, aggPart, AV.isAggV, loadElem, loadElt, loadR, storeOwn, AV.redir, redir, storeAl, storeRef, storeCells, storeVar, storePart, storeRow, storeElt, storeR, isU8, convBytes, convCont, convR, makeR, optI, cutSl, cutImm, cutStr, delV, ASt.freeVar, mkFnR, capR, capV, cutArr, cutR, addrR, structF, fieldR, idxSl, idxAddrR, idxR, extrOne, extrR, lenCont, lenR, appSrc, appRef, appTo, appR, maxR, fnOf, appKind, callFn, callLen, callApp, callMax, callR, grdO, grdT, TI.zeroVal, TK.isAgg, TK.known, Loc.plain, ASt.keep, ASt.imm, ASt.immRef, AV.isImm, AV.flat, AV.frz, AV.frz0, AV.mark, AV.elemsOf, AV.elemsO, ASt.cont, markFrom, putAt, resOf, resTup, resAll, resCons, resOne, resVar, resCells, resTmp, decide_true, decide_false, Bool.and_true, Bool.true_and, Bool.and_false, Bool.false_and, Bool.and_self, Bool.not_true, Bool.not_false, bq_t, bq_f, Bool.false_eq_true, Bool.true_eq_false, ↓reduceIte, Nat.reduceLT, Nat.reduceLeDiff, Nat.reduceAdd, Nat.reduceSub, Nat.reduceMul, Nat.reduceEqDiff, Nat.reduceBEq, Nat.lt_irrefl, Nat.zero_add, Nat.add_zero, Nat.mul_one, Nat.zero_mul, Nat.mul_zero, Nat.reduceMod, Nat.reduceDiv, Nat.zero_le, Nat.le_refl, Nat.beq, Int.reduceToNat, List.length_cons, List.length_nil, Option.isNone_none, Option.isNone_some, Option.bind_some, Option.bind_none, Option.map_some, Option.map_none, List.getElem?_cons_zero, List.getElem?_cons_succ, List.getElem?_nil, List.take_succ_cons, List.take_zero, List.take_nil, List.drop_succ_cons, List.drop_zero, List.drop_nil, List.map_cons, List.map_nil, List.cons_append, List.nil_append, List.append_nil, List.set_cons_zero, List.set_cons_succ, List.headD_cons, List.headD_nil, List.tail_cons, List.tail_nil, List.contains_cons, List.contains_nil, Bool.or_false, Bool.false_or, Bool.or_true, Bool.true_or, BEq.rfl, beq_self_eq_true, Nat.reduceBEq, List.replicate_zero, List.replicate_succ, List.isEmpty_nil, List.size_toArray, Array.isEmpty, List.reverse_nil, List.all_cons, List.all_nil, eq_self, true_and, and_true, false_and, and_false, and_self, not_true_eq_false, not_false_eq_true, reduceCtorEq, Loc.tmp.injEq, Loc.cell.injEq, Loc.comp.injEq, or_true, true_or, or_false, false_or, exists_const, Int.reduceLT, Int.reduceLE, Int.reduceGT, Int.reduceGE, Option.isSome_some, Option.isSome_none, Int.reduceAdd, Int.reduceSub, Int.reduceMul, Int.reduceNeg, Int.reduceEq, Int.reduceNe, Int.reduceBNe, Int.reduceBEq, ne_eq, Int.toNat_zero, Int.reduceDiv, forall_const, Nat.not_lt_zero, Nat.lt_add_one, ti1, ti2, ti3, ti4, ti5, ti6, ti7, ti8, ti9, ti10, ti11, ti12, ti13, ti14, ti21, ti22, ti23, ti24, ti25, ti26, ti27, ti28, ti29, ti30, ti31, ti32, ti33, ti34, ti35, ti37, ti38, ti39, ti40, ti41, ti42, ti43, ti45, ti46, ti47, ti48, ti49, ti50, ti51, ti52, ti53, ti55, ti56, ti58, ti59, ti60, ti61, ti62, ti64, ti66, ti67, ti69, ti70, ti71, ti72, ti73, ti74, ti75, ti76, ti77, ti78, ti79, ti81, ti82, ti83, ti85, ti86, ti87, ti88, ti89, ti90, ti92, ti93, ti94, ti95, ti96, ti98, ti100, ti101, ti102, ti103, ti104, ti105, ti107, ti108, ti109, ti110, ti111, ti112, ti113, ti114, ti115, ti116, ti117, ti118, ti119, ti120, ti121, ti122, ti123, ti125, ti127, ti128, ti129, ti130, ti131, ti132, ti133, ti134, ti135, ti136, ti137, ti138, ti139, ti141, ti142, ti143, ti144, ti145, ti146, ti147, ti148, ti150, ti151, ti152, ti153, ti154, ti155, ti156, ti157, ti158, ti159, ti160, ti161, ti162, ti163, ti164, ti165, ti166, ti167, ti168, ti169, ti170, ti171, ti172, ti173, ti174, ti175, ti176, ti177, ti178, ti184, ti185, ti186, ti187, ti188, ti190, ti191, shr0, shr32]
  all_goals rw [and_mask _ (by omega)]
  all_goals simp only [Nat.pow_zero, Nat.div_one, Nat.reducePow]

/-! Numbers by their digits. -/
def val (B : Nat) : List Nat → Nat
  | [] => 0
  | a :: l => a + B * val B l
theorem val_set (B : Nat) : ∀ (l : List Nat) (j a v : Nat), l[j]? = some a → val B (l.set j v) + a * B ^ j = val B l + v * B ^ j
  | [], j, a, v, h => by cases h
  | x :: l, 0, a, v, h => by
    simp only [List.getElem?_cons_zero, Option.some.injEq] at h
    subst h
    simp [val]; omega
  | x :: l, j + 1, a, v, h => by
    simp only [List.getElem?_cons_succ] at h
    have ih := val_set B l j a v h
    simp only [List.set_cons_succ, val, Nat.pow_succ]
    have := congrArg (B * ·) ih
    simp only [Nat.mul_add] at this
    have e1 : a * (B ^ j * B) = B * (a * B ^ j) := by rw [← Nat.mul_assoc, Nat.mul_comm]
    have e2 : v * (B ^ j * B) = B * (v * B ^ j) := by rw [← Nat.mul_assoc, Nat.mul_comm]
    omega
theorem val_zero (B n : Nat) : val B (List.replicate n 0) = 0 := by
  induction n with
  | zero => rfl
  | succ n ih => simp [List.replicate_succ, val, ih]
theorem putAt_set {α : Type} (f : α → AV) (l : List α) (j : Nat) (v : α) (h : j < l.length) : putAt (l.map f) j [f v] = (l.set j v).map f := by
  unfold putAt
  rw [List.map_set, List.set_eq_take_append_cons_drop, if_pos (by simpa using h)]
  simp
/-- A digit of a number. -/
def dg (B n i : Nat) : Nat := n / B ^ i % B
theorem dg_step (B n k : Nat) : n % B ^ (k + 1) = n % B ^ k + dg B n k * B ^ k := by
  unfold dg
  rw [Nat.pow_succ, Nat.mod_mul, Nat.mul_comm]
/-- One step of a product, by digits. -/
theorem mac {B V V' P out s c c' x y : Nat} (hs : s + B * c' = out + x * y + c) (hV : V' + out * P = V + s * P) : V' + c' * (P * B) = V + c * P + x * y * P := by
  have := congrArg (· * P) hs
  simp only [Nat.add_mul] at this
  have e : B * c' * P = c' * (P * B) := by rw [Nat.mul_comm B c', Nat.mul_assoc, Nat.mul_comm B P]
  omega
end Go.Proofs.Ytpepfhbfooeoeaa.VA
end
section
namespace Go.Proofs.Ytpepfhbfooeoeaa.VA
set_option maxRecDepth 10000
set_option maxHeartbeats 8000000

def un (x : Nat) : AV := .int .u64 (x : Int)
/-- What a row of digits is, in the midst of a product. -/
structure Part (B w n m i : Nat) (out : List Nat) (V : Nat) : Prop where
  len : out.length = 2 * w
  lt : ∀ x ∈ out, x < B
  sum : val B out = V
  zero : ∀ j, i + w ≤ j → j < 2 * w → out[j]? = some 0
theorem Part.set {B w n m i V j v a : Nat} {out : List Nat} (h : Part B w n m i out V) (hj : j < i + w) (hv : v < B) (ha : out[j]? = some a) :
    Part B w n m i (out.set j v) (val B (out.set j v)) ∧ val B (out.set j v) + a * B ^ j = V + v * B ^ j := by
  refine ⟨⟨by rw [List.length_set]; exact h.len, fun x hx => ?_, rfl, fun k hk hk2 => ?_⟩, ?_⟩
  · rcases List.mem_or_eq_of_mem_set hx with hx | rfl
    · exact h.lt x hx
    · exact hv
  · rw [List.getElem?_set_ne (by omega)]
    exact h.zero k hk hk2
  · have := val_set B out j a v ha
    rw [h.sum] at this
    exact this
theorem Part.set9 {B w n m i V c : Nat} {out : List Nat} (h : Part B w n m i out V) (hi : i < w) (hc : c < B) :
    Part B w n m (i + 1) (out.set (i + w) c) (val B (out.set (i + w) c)) ∧ val B (out.set (i + w) c) + 0 * B ^ (i + w) = V + c * B ^ (i + w) := by
  refine ⟨⟨by rw [List.length_set]; exact h.len, fun x hx => ?_, rfl, fun k hk hk2 => ?_⟩, ?_⟩
  · rcases List.mem_or_eq_of_mem_set hx with hx | rfl
    · exact h.lt x hx
    · exact hc
  · rw [List.getElem?_set_ne (by omega)]
    exact h.zero k (by omega) hk2
  · have := val_set B out (i + w) 0 c (h.zero (i + w) (by omega) (by omega))
    rw [h.sum] at this
    exact this
theorem dg_lt (B n i : Nat) (hB : 0 < B) : dg B n i < B := Nat.mod_lt _ hB
theorem dig_dg (n i : Nat) : dig n i = dg 4294967296 n i := by
  unfold dig dg
  rw [show (4294967296 : Nat) = 2 ^ 32 from rfl, ← Nat.pow_mul]

theorem step_val {B n m i k c V V' : Nat} (hB : 0 < B) (h1 : V + c * B ^ (i + k) = n % B ^ i * m + dg B n i * (m % B ^ k) * B ^ i) {c' : Nat} (h2 : V' + c' * (B ^ (i + k) * B) = V + c * B ^ (i + k) + dg B n i * dg B m k * B ^ (i + k)) :
    V' + c' * B ^ (i + (k + 1)) = n % B ^ i * m + dg B n i * (m % B ^ (k + 1)) * B ^ i := by
  rw [dg_step, Nat.mul_add, Nat.add_mul]
  have e1 : dg B n i * (dg B m k * B ^ k) * B ^ i = dg B n i * dg B m k * B ^ (i + k) := by
    rw [Nat.pow_add, Nat.mul_comm (B ^ i), ← Nat.mul_assoc, ← Nat.mul_assoc]
  rw [e1, show i + (k + 1) = (i + k) + 1 from rfl, Nat.pow_succ]
  omega
theorem row_val {B n m i w V c V' : Nat} (hm : m < B ^ w) (h1 : V + c * B ^ (i + w) = n % B ^ i * m + dg B n i * (m % B ^ w) * B ^ i) (h2 : V' + 0 * B ^ (i + w) = V + c * B ^ (i + w)) : V' = n % B ^ (i + 1) * m := by
  rw [Nat.mod_eq_of_lt hm] at h1
  rw [dg_step, Nat.add_mul]
  have : dg B n i * B ^ i * m = dg B n i * m * B ^ i := by rw [Nat.mul_assoc, Nat.mul_comm (B ^ i), ← Nat.mul_assoc]
  omega

theorem put_set {α : Type} (f : α → AV) (l : List α) (j : Nat) (v : α) (h : j < l.length) : List.take j (l.map f) ++ [f v] ++ List.drop (j + 1) (l.map f) = (l.set j v).map f := by
  rw [List.map_set, List.set_eq_take_append_cons_drop, if_pos (by simpa using h), List.append_assoc]
  rfl
theorem or_dig0 {a : Nat} (ha : a < 4294967296) : IntKind.u64.wrap ((BitVec.ofInt IntKind.u64.bits 0 ||| BitVec.ofInt IntKind.u64.bits (IntKind.u64.wrap ((a : Int) * 2 ^ (min 0 IntKind.u64.bits)))).toNat : Int) = (a : Int) := by
  have e : IntKind.u64.bits = 64 := rfl
  have e1 : IntKind.u64.wrap ((a : Int) * 2 ^ (min 0 64)) = a := by
    rw [show (2 : Int) ^ (min 0 64) = 1 from by decide, Int.mul_one, wu64 (by omega) (by omega)]
  rw [e, e1, show BitVec.ofInt 64 0 = 0#64 from rfl, BitVec.zero_or, ofInt_nat, BitVec.toNat_ofNat, Nat.mod_eq_of_lt (by omega)]
  exact wu64 (by omega) (by omega)
theorem or_dig {a b : Nat} (ha : a < 4294967296) (hb : b < 4294967296) : IntKind.u64.wrap ((BitVec.ofInt IntKind.u64.bits (a : Int) ||| BitVec.ofInt IntKind.u64.bits (IntKind.u64.wrap ((b : Int) * 2 ^ (min 32 IntKind.u64.bits)))).toNat : Int) = ((a + 4294967296 * b : Nat) : Int) := by
  have e : IntKind.u64.bits = 64 := rfl
  rw [e, show (2 : Int) ^ (min 32 64) = ((4294967296 : Nat) : Int) from by decide, mulw (by omega), ofInt_nat, ofInt_nat, BitVec.toNat_or, BitVec.toNat_ofNat, BitVec.toNat_ofNat, Nat.mod_eq_of_lt (by omega), Nat.mod_eq_of_lt (by omega)]
  have e4 : a ||| b * 4294967296 = a + 4294967296 * b := by
    have := Nat.two_pow_add_eq_or_of_lt (i := 32) (show a < 2 ^ 32 by omega) b
    rw [Nat.or_comm, Nat.mul_comm b]
    rw [show (2 : Nat) ^ 32 = 4294967296 from rfl] at this
    omega
  rw [e4, wu64 (by omega) (by omega)]
theorem sixteen {l : List Nat} (h : l.length = 16) : ∃ o0 o1 o2 o3 o4 o5 o6 o7 o8 o9 o10 o11 o12 o13 o14 o15, l = [o0, o1, o2, o3, o4, o5, o6, o7, o8, o9, o10, o11, o12, o13, o14, o15] := by
  match l, h with
  | [o0, o1, o2, o3, o4, o5, o6, o7, o8, o9, o10, o11, o12, o13, o14, o15], _ => exact ⟨o0, o1, o2, o3, o4, o5, o6, o7, o8, o9, o10, o11, o12, o13, o14, o15, rfl⟩
theorem val_ge (B : Nat) : ∀ (l : List Nat) (j a : Nat), l[j]? = some a → a * B ^ j ≤ val B l
  | [], j, a, h => by cases h
  | x :: l, 0, a, h => by
    simp only [List.getElem?_cons_zero, Option.some.injEq] at h
    subst h
    simp [val]
  | x :: l, j + 1, a, h => by
    simp only [List.getElem?_cons_succ] at h
    have ih := Nat.mul_le_mul_left B (val_ge B l j a h)
    simp only [val, Nat.pow_succ]
    have e1 : a * (B ^ j * B) = B * (a * B ^ j) := by rw [← Nat.mul_assoc, Nat.mul_comm]
    omega
theorem val_big (hU : U = 4294967296 ^ 8) {l : List Nat} {p j a : Nat} (hs : val 4294967296 l = p) (hj : 8 ≤ j) (h : l[j]? = some a) (ha : 0 < a) : ¬ p < U := by
  have h1 := val_ge 4294967296 l j a h
  have h2 : 4294967296 ^ 8 ≤ 4294967296 ^ j := Nat.pow_le_pow_right (by decide) hj
  have h3 : 1 * 4294967296 ^ j ≤ a * 4294967296 ^ j := Nat.mul_le_mul_right _ ha
  rw [hU]; omega
theorem val_small (hU : U = 4294967296 ^ 8) {o0 o1 o2 o3 o4 o5 o6 o7 o8 o9 o10 o11 o12 o13 o14 o15 p : Nat} (hs : val 4294967296 [o0, o1, o2, o3, o4, o5, o6, o7, o8, o9, o10, o11, o12, o13, o14, o15] = p)
    (b0 : o0 < 4294967296) (b1 : o1 < 4294967296) (b2 : o2 < 4294967296) (b3 : o3 < 4294967296) (b4 : o4 < 4294967296) (b5 : o5 < 4294967296) (b6 : o6 < 4294967296) (b7 : o7 < 4294967296)
    (z8 : o8 = 0) (z9 : o9 = 0) (z10 : o10 = 0) (z11 : o11 = 0) (z12 : o12 = 0) (z13 : o13 = 0) (z14 : o14 = 0) (z15 : o15 = 0) :
    p < U ∧ p = o0 + 4294967296 * o1 + 18446744073709551616 * (o2 + 4294967296 * o3) + 340282366920938463463374607431768211456 * (o4 + 4294967296 * o5) + 6277101735386680763835789423207666416102355444464034512896 * (o6 + 4294967296 * o7) := by
  subst z8 z9 z10 z11 z12 z13 z14 z15
  simp only [val, Nat.mul_zero, Nat.add_zero] at hs
  unfold U
  constructor <;> omega
theorem c_ref1_Mul (n m : Nat) (hn : n < U) (hm : m < U) : Contract Try.prog 117 [u n, u m] (.tup [u (if n * m < U then n * m else 0), .bool (decide (n * m < U))]) := by
  have hU : U = 4294967296 ^ 8 := by decide
  refine contract_of (C := cf 75 [2, 3, 4, 5, 6, 7, 8, 9, 10, 11, 12, 14, 18, 50, 57] (fun _ => [])) (cf_ok _ _ _) (fn := Try.f117) Try.func117 (by kernel_rfl) rfl (by kernel_rfl) (by simp [cf]) (plain2 (u_plain n) (u_plain m)) (by decide) (cellsOk (by kernel_rfl)) ?_
  have hu1 : u n = .agg [.int .u64 (lim n 0), .int .u64 (lim n 1), .int .u64 (lim n 2), .int .u64 (lim n 3)] := rfl
  have hu2 : u m = .agg [.int .u64 (lim m 0), .int .u64 (lim m 1), .int .u64 (lim m 2), .int .u64 (lim m 3)] := rfl
  simp only [go_sem, ↓reduceIte, Nat.reduceLT, Nat.reduceLeDiff, Nat.reduceAdd, Nat.reduceSub, Nat.reduceMul, Nat.reduceEqDiff, Nat.reduceBEq, Nat.reduceMod, Nat.reduceDiv, Int.reduceToNat, reduceCtorEq, Int.reduceLT, Int.reduceLE, Int.reduceGT, Int.reduceGE, Int.reduceAdd, Int.reduceSub, Int.reduceMul, Int.reduceNeg, Int.reduceEq, Int.reduceNe, Int.reduceBNe, Int.reduceBEq, Int.reduceDiv, hu1, hu2]
  refine ex_iter [2, 3, 4, 6, 7] (fun q : Nat × List Nat => ⟨[(2, .var 2 0), (3, .var 3 0), (4, .var 4 0), (6, .var 6 0), (7, .int .i64 q.1)],
      [(2, [.int .u64 (lim n 0), .int .u64 (lim n 1), .int .u64 (lim n 2), .int .u64 (lim n 3)]), (3, [.int .u64 (lim m 0), .int .u64 (lim m 1), .int .u64 (lim m 2), .int .u64 (lim m 3)]), (4, [.int .u64 0, .int .u64 0, .int .u64 0, .int .u64 0]), (6, q.2.map un)], []⟩)
    (fun q => q.1 ≤ 8 ∧ Part 4294967296 8 n m q.1 q.2 (n % 4294967296 ^ q.1 * m)) (fun q => 8 - q.1) (0, List.replicate 16 0) ?_ ?_ ?_
  · simp only [ASt.keep, consIf, keepL, keepV, AV.isBot, List.contains_cons, List.contains_nil, Nat.reduceBEq, Bool.or_false, Bool.false_or, Bool.or_true, Bool.true_or, beq_self_eq_true, Bool.false_eq_true, ↓reduceIte, if_false, if_true]
    rfl
  · exact ⟨Nat.zero_le _, ⟨rfl, fun x hx => by rw [List.eq_of_mem_replicate hx]; decide, by rw [val_zero]; simp [Nat.mod_one], fun j _ hj => by rw [List.getElem?_replicate]; exact if_pos hj⟩⟩
  · rintro r ⟨i, out⟩ hinv next
    obtain ⟨hi, hp⟩ : i ≤ 8 ∧ Part 4294967296 8 n m i out (n % 4294967296 ^ i * m) := hinv
    simp only [go_sem, ↓reduceIte, Nat.reduceLT, Nat.reduceLeDiff, Nat.reduceAdd, Nat.reduceSub, Nat.reduceMul, Nat.reduceEqDiff, Nat.reduceBEq, Nat.reduceMod, Nat.reduceDiv, Int.reduceToNat, reduceCtorEq, Int.reduceLT, Int.reduceLE, Int.reduceGT, Int.reduceGE, Int.reduceAdd, Int.reduceSub, Int.reduceMul, Int.reduceNeg, Int.reduceEq, Int.reduceNe, Int.reduceBNe, Int.reduceBEq, Int.reduceDiv]
    refine ex_br (fun h => ?_) (fun h => ?_)
    · have hlt : i < 8 := by simp at h; omega
      simp only [go_sem, ↓reduceIte, Nat.reduceLT, Nat.reduceLeDiff, Nat.reduceAdd, Nat.reduceSub, Nat.reduceMul, Nat.reduceEqDiff, Nat.reduceBEq, Nat.reduceMod, Nat.reduceDiv, Int.reduceToNat, reduceCtorEq, Int.reduceLT, Int.reduceLE, Int.reduceGT, Int.reduceGE, Int.reduceAdd, Int.reduceSub, Int.reduceMul, Int.reduceNeg, Int.reduceEq, Int.reduceNe, Int.reduceBNe, Int.reduceBEq, Int.reduceDiv]
      refine ex_iter [2, 3, 4, 6, 7, 8, 9] (fun q : Nat × Nat × List Nat => ⟨[(2, .var 2 0), (3, .var 3 0), (4, .var 4 0), (6, .var 6 0), (7, .int .i64 i), (8, .int .u64 q.2.1), (9, .int .i64 q.1)],
          [(2, [.int .u64 (lim n 0), .int .u64 (lim n 1), .int .u64 (lim n 2), .int .u64 (lim n 3)]), (3, [.int .u64 (lim m 0), .int .u64 (lim m 1), .int .u64 (lim m 2), .int .u64 (lim m 3)]), (4, [.int .u64 0, .int .u64 0, .int .u64 0, .int .u64 0]), (6, q.2.2.map un)], []⟩)
        (fun q => q.1 ≤ 8 ∧ q.2.1 < 4294967296 ∧ ∃ V, Part 4294967296 8 n m i q.2.2 V ∧ V + q.2.1 * 4294967296 ^ (i + q.1) = n % 4294967296 ^ i * m + dg 4294967296 n i * (m % 4294967296 ^ q.1) * 4294967296 ^ i) (fun q => 8 - q.1) (0, 0, out) ?_ ?_ ?_
      · simp only [ASt.keep, consIf, keepL, keepV, AV.isBot, List.contains_cons, List.contains_nil, Nat.reduceBEq, Bool.or_false, Bool.false_or, Bool.or_true, Bool.true_or, beq_self_eq_true, Bool.false_eq_true, ↓reduceIte, if_false, if_true]
        rfl
      · exact ⟨Nat.zero_le _, Nat.succ_pos _, _, hp, by simp [Nat.mod_one]⟩
      · rintro r ⟨k, c, out⟩ hinv next2
        obtain ⟨hk, hc, V, hp, hv⟩ : k ≤ 8 ∧ c < 4294967296 ∧ ∃ V, Part 4294967296 8 n m i out V ∧ V + c * 4294967296 ^ (i + k) = n % 4294967296 ^ i * m + dg 4294967296 n i * (m % 4294967296 ^ k) * 4294967296 ^ i := hinv
        simp only [go_sem, ↓reduceIte, Nat.reduceLT, Nat.reduceLeDiff, Nat.reduceAdd, Nat.reduceSub, Nat.reduceMul, Nat.reduceEqDiff, Nat.reduceBEq, Nat.reduceMod, Nat.reduceDiv, Int.reduceToNat, reduceCtorEq, Int.reduceLT, Int.reduceLE, Int.reduceGT, Int.reduceGE, Int.reduceAdd, Int.reduceSub, Int.reduceMul, Int.reduceNeg, Int.reduceEq, Int.reduceNe, Int.reduceBNe, Int.reduceBEq, Int.reduceDiv]
        refine ex_br (fun h2 => ?_) (fun h2 => ?_)
        · have hlt2 : k < 8 := by simp at h2; omega
          obtain ⟨o, eo⟩ : ∃ o, out[i + k]? = some o := ⟨_, List.getElem?_eq_getElem (by rw [hp.len]; omega)⟩
          have ho := hp.lt o (List.mem_of_getElem? eo)
          have ik : IntKind.i64.wrap ((i : Int) + k) = ((i + k : Nat) : Int) := by rw [wi64 (by omega) (by omega)]; rfl
          simp only [go_sem, ↓reduceIte, Nat.reduceLT, Nat.reduceLeDiff, Nat.reduceAdd, Nat.reduceSub, Nat.reduceMul, Nat.reduceEqDiff, Nat.reduceBEq, Nat.reduceMod, Nat.reduceDiv, Int.reduceToNat, reduceCtorEq, Int.reduceLT, Int.reduceLE, Int.reduceGT, Int.reduceGE, Int.reduceAdd, Int.reduceSub, Int.reduceMul, Int.reduceNeg, Int.reduceEq, Int.reduceNe, Int.reduceBNe, Int.reduceBEq, Int.reduceDiv]
          refine ex_draw [] [] (.quiet 0 (.quiet 1 (.quiet 2 (.quiet 3 (.quiet 4 (.quiet 5 (.quiet 6 (.quiet 8 (.quiet 9 (.quiet 13 (.one 7 (.one 10 (.quiet 11 (.quiet 12 (.quiet 14 (.quiet 15 (.fin))))))))))))))))) (by kernel_rfl) ?_
          simp only [go_sem, ↓reduceIte, Nat.reduceLT, Nat.reduceLeDiff, Nat.reduceAdd, Nat.reduceSub, Nat.reduceMul, Nat.reduceEqDiff, Nat.reduceBEq, Nat.reduceMod, Nat.reduceDiv, Int.reduceToNat, reduceCtorEq, Int.reduceLT, Int.reduceLE, Int.reduceGT, Int.reduceGE, Int.reduceAdd, Int.reduceSub, Int.reduceMul, Int.reduceNeg, Int.reduceEq, Int.reduceNe, Int.reduceBNe, Int.reduceBEq, Int.reduceDiv, ik, Int.toNat_natCast, List.getElem?_map, eo, un]
          have hx : dig n i < 4294967296 := Nat.mod_lt _ (by decide)
          have hy : dig m k < 4294967296 := Nat.mod_lt _ (by decide)
          have hxy := mul_small hx hy
          have a0 := mulw (p := dig n i) (q := dig m k) (by omega)
          have a1 := addw (p := o) (q := dig n i * dig m k) (by omega)
          have a2 := addw (p := o + dig n i * dig m k) (q := c) (by omega)
          have a3 := and_mask (o + dig n i * dig m k + c) (by omega)
          have a4 := put_set un out (i + k) ((o + dig n i * dig m k + c) % 4294967296) (by rw [hp.len]; omega)
          have a5 : i + k + 1 ≤ (out.map un).length := by rw [List.length_map, hp.len]; omega
          repeat with_reducible refine And.intro (by first | omega | (simp only [List.length_cons, List.length_append, List.length_nil, List.length_map, List.length_take, List.length_drop, List.length_set]; omega)) ?_
          refine ex_call (by exact c_digit n i hn hlt) ?_
          simp only [ASt.wrRes, R.chk, Cfg.may, Nat.reduceLT, decide_true, List.contains_nil, Bool.not_false, Bool.and_self, look, Nat.reduceEqDiff, ↓reduceIte, Option.isNone_none, ASt.wrResTo, AV.isImm, ASt.put, ins, Nat.lt_add_one, ex_ok, ex_ord_one, List.getElem?_cons_succ, List.getElem?_cons_zero, ex_oq_f, stepR, opR, callR, callEnd, argsGo, Nat.zero_add, List.tail_cons, Bool.false_eq_true, argImm, ASt.imm, ASt.rd, AV.seen, List.nil_append, List.cons_append, ex_ord_quiet, ex_oq_t, quietOp, binR, ASt.wrO, binInt, ASt.wr, ASt.wrTo, assignR, ex_ord_fin, ex_keep, ASt.keep, keepL, consIf, List.contains_cons, BEq.rfl, Nat.reduceBEq, Bool.or_false, Bool.or_true, keepV, ex_region, ex_ops_cons, moveR, AV.const, Int.reduceLE, Int.reduceToNat, ex_need, idxAddrR, Option.isSome_some, Int.toNat_natCast, Nat.mul_one, storeR, TK.known, storeVar, storeCells, AV.flat, List.length_cons, List.length_nil, Bool.true_and, Nat.lt_irrefl, putAt, true_and, ex_ops_nil, ex_inBlock_n, ex_exit, ex_code_e, ex_rounds_e, ex_inBlock_same, ne_eq, Int.reduceEq, not_false_eq_true, Int.reduceTDiv, Int.reduceNeg, Int.cast_ofNat_Int, Int.reduceLT, and_self, Int.toNat_zero, Nat.add_zero, quietLoad, loadR, loadVar, TK.isAgg, loadOne, Int.reduceTMod, Int.reduceMul, ex_ord_unlock, Nat.reduceAdd, Nat.reduceLeDiff, List.take_zero, List.drop_succ_cons, List.drop_zero, Int.reduceAdd, List.take_succ_cons, Nat.le_refl, List.drop_nil, List.append_nil, ti23, ti25, ti160]
          refine ex_call (by exact c_digit m k hm hlt2) ?_
          simp only [ASt.wrRes, R.chk, Cfg.may, Nat.reduceLT, decide_true, List.contains_nil, Bool.not_false, Bool.and_self, look, Nat.reduceEqDiff, ↓reduceIte, Option.isNone_none, ASt.wrResTo, AV.isImm, ASt.put, ins, Nat.lt_add_one, ex_ok, ex_ord_one, List.getElem?_cons_succ, List.getElem?_cons_zero, ex_oq_f, stepR, opR, callR, callEnd, argsGo, Nat.zero_add, List.tail_cons, Bool.false_eq_true, argImm, ASt.imm, ASt.rd, AV.seen, List.nil_append, List.cons_append, ex_ord_quiet, ex_oq_t, quietOp, binR, ASt.wrO, binInt, ASt.wr, ASt.wrTo, assignR, ex_ord_fin, ex_keep, ASt.keep, keepL, consIf, List.contains_cons, BEq.rfl, Nat.reduceBEq, Bool.or_false, Bool.or_true, keepV, ex_region, ex_ops_cons, moveR, AV.const, Int.reduceLE, Int.reduceToNat, ex_need, idxAddrR, Option.isSome_some, Int.toNat_natCast, Nat.mul_one, storeR, TK.known, storeVar, storeCells, AV.flat, List.length_cons, List.length_nil, Bool.true_and, Nat.lt_irrefl, putAt, true_and, ex_ops_nil, ex_inBlock_n, ex_exit, ex_code_e, ex_rounds_e, ex_inBlock_same, ne_eq, Int.reduceEq, not_false_eq_true, Int.reduceTDiv, Int.reduceNeg, Int.cast_ofNat_Int, Int.reduceLT, and_self, Int.toNat_zero, Nat.add_zero, quietLoad, loadR, loadVar, TK.isAgg, loadOne, Int.reduceTMod, Int.reduceMul, ex_ord_unlock, Nat.reduceAdd, Nat.reduceLeDiff, List.take_zero, List.drop_succ_cons, List.drop_zero, Int.reduceAdd, List.take_succ_cons, Nat.le_refl, List.drop_nil, List.append_nil, ti23, ti25, ti160, a0, a1, a2, a3, shr32, ik, Int.toNat_natCast]
          repeat with_reducible refine And.intro (by first | omega | (simp only [List.length_cons, List.length_append, List.length_nil, List.length_map, List.length_take, List.length_drop, List.length_set]; omega)) ?_
          simp only [ASt.wrRes, R.chk, Cfg.may, Nat.reduceLT, decide_true, List.contains_nil, Bool.not_false, Bool.and_self, look, Nat.reduceEqDiff, ↓reduceIte, Option.isNone_none, ASt.wrResTo, AV.isImm, ASt.put, ins, Nat.lt_add_one, ex_ok, ex_ord_one, List.getElem?_cons_succ, List.getElem?_cons_zero, ex_oq_f, stepR, opR, callR, callEnd, argsGo, Nat.zero_add, List.tail_cons, Bool.false_eq_true, argImm, ASt.imm, ASt.rd, AV.seen, List.nil_append, List.cons_append, ex_ord_quiet, ex_oq_t, quietOp, binR, ASt.wrO, binInt, ASt.wr, ASt.wrTo, assignR, ex_ord_fin, ex_keep, ASt.keep, keepL, consIf, List.contains_cons, BEq.rfl, Nat.reduceBEq, Bool.or_false, Bool.or_true, keepV, ex_region, ex_ops_cons, moveR, AV.const, Int.reduceLE, Int.reduceToNat, ex_need, idxAddrR, Option.isSome_some, Int.toNat_natCast, Nat.mul_one, storeR, TK.known, storeVar, storeCells, AV.flat, List.length_cons, List.length_nil, Bool.true_and, Nat.lt_irrefl, putAt, true_and, ex_ops_nil, ex_inBlock_n, ex_exit, ex_code_e, ex_rounds_e, ex_inBlock_same, ne_eq, Int.reduceEq, not_false_eq_true, Int.reduceTDiv, Int.reduceNeg, Int.cast_ofNat_Int, Int.reduceLT, and_self, Int.toNat_zero, Nat.add_zero, quietLoad, loadR, loadVar, TK.isAgg, loadOne, Int.reduceTMod, Int.reduceMul, ex_ord_unlock, Nat.reduceAdd, Nat.reduceLeDiff, List.take_zero, List.drop_succ_cons, List.drop_zero, Int.reduceAdd, List.take_succ_cons, Nat.le_refl, List.drop_nil, List.append_nil, ti23, ti25, ti160, decide_eq_true_eq, a5]
          obtain ⟨p1, p2⟩ := hp.set (j := i + k) (v := (o + dig n i * dig m k + c) % 4294967296) (by omega) (Nat.mod_lt _ (by decide)) eo
          refine next2 (k + 1, (o + dig n i * dig m k + c) / 4294967296, out.set (i + k) ((o + dig n i * dig m k + c) % 4294967296)) _ ⟨by simp only; omega, by simp only; omega, _, p1, step_val (by decide) hv ?_⟩ (by simp only; omega) ?_
          · refine mac (s := (o + dig n i * dig m k + c) % 4294967296) (out := o) ?_ p2
            rw [← dig_dg, ← dig_dg]
            exact Nat.mod_add_div _ _
          · simp only
            rw [← wi64_nat k (by omega), ← a4]
            simp only [ASt.keep, consIf, keepL, keepV, AV.isBot, List.contains_cons, List.contains_nil, Nat.reduceBEq, Bool.or_false, Bool.false_or, Bool.or_true, Bool.true_or, beq_self_eq_true, Bool.false_eq_true, ↓reduceIte, if_false, if_true]
            rfl
        · have hge : k = 8 := by simp at h2; omega
          subst hge
          have eo : out[i + 8]? = some 0 := hp.zero (i + 8) (by omega) (by omega)
          have ik : IntKind.i64.wrap ((i : Int) + 8) = ((i + 8 : Nat) : Int) := by rw [wi64 (by omega) (by omega)]; rfl
          have a4 := put_set un out (i + 8) c (by rw [hp.len]; omega)
          have a5 : i + 8 + 1 ≤ (out.map un).length := by rw [List.length_map, hp.len]; omega
          obtain ⟨p1, p2⟩ := hp.set9 (c := c) (by omega) hc
          have p3 := row_val (by rw [← hU]; exact hm) hv p2
          simp only [ASt.wrRes, R.chk, Cfg.may, Nat.reduceLT, decide_true, List.contains_nil, Bool.not_false, Bool.and_self, look, Nat.reduceEqDiff, ↓reduceIte, Option.isNone_none, ASt.wrResTo, AV.isImm, ASt.put, ins, Nat.lt_add_one, ex_ok, ex_ord_one, List.getElem?_cons_succ, List.getElem?_cons_zero, ex_oq_f, stepR, opR, callR, callEnd, argsGo, Nat.zero_add, List.tail_cons, Bool.false_eq_true, argImm, ASt.imm, ASt.rd, AV.seen, List.nil_append, List.cons_append, ex_ord_quiet, ex_oq_t, quietOp, binR, ASt.wrO, binInt, ASt.wr, ASt.wrTo, assignR, ex_ord_fin, ex_keep, ASt.keep, keepL, consIf, List.contains_cons, BEq.rfl, Nat.reduceBEq, Bool.or_false, Bool.or_true, keepV, ex_region, ex_ops_cons, moveR, AV.const, Int.reduceLE, Int.reduceToNat, ex_need, idxAddrR, Option.isSome_some, Int.toNat_natCast, Nat.mul_one, storeR, TK.known, storeVar, storeCells, AV.flat, List.length_cons, List.length_nil, Bool.true_and, Nat.lt_irrefl, putAt, true_and, ex_ops_nil, ex_inBlock_n, ex_exit, ex_code_e, ex_rounds_e, ex_inBlock_same, ne_eq, Int.reduceEq, not_false_eq_true, Int.reduceTDiv, Int.reduceNeg, Int.cast_ofNat_Int, Int.reduceLT, and_self, Int.toNat_zero, Nat.add_zero, quietLoad, loadR, loadVar, TK.isAgg, loadOne, Int.reduceTMod, Int.reduceMul, ex_ord_unlock, Nat.reduceAdd, Nat.reduceLeDiff, List.take_zero, List.drop_succ_cons, List.drop_zero, Int.reduceAdd, List.take_succ_cons, Nat.le_refl, List.drop_nil, List.append_nil, ti23, ti25, ti160, ik, Int.toNat_natCast]
          repeat with_reducible refine And.intro (by first | omega | (simp only [List.length_cons, List.length_append, List.length_nil, List.length_map, List.length_take, List.length_drop, List.length_set]; omega)) ?_
          simp only [ASt.wrRes, R.chk, Cfg.may, Nat.reduceLT, decide_true, List.contains_nil, Bool.not_false, Bool.and_self, look, Nat.reduceEqDiff, ↓reduceIte, Option.isNone_none, ASt.wrResTo, AV.isImm, ASt.put, ins, Nat.lt_add_one, ex_ok, ex_ord_one, List.getElem?_cons_succ, List.getElem?_cons_zero, ex_oq_f, stepR, opR, callR, callEnd, argsGo, Nat.zero_add, List.tail_cons, Bool.false_eq_true, argImm, ASt.imm, ASt.rd, AV.seen, List.nil_append, List.cons_append, ex_ord_quiet, ex_oq_t, quietOp, binR, ASt.wrO, binInt, ASt.wr, ASt.wrTo, assignR, ex_ord_fin, ex_keep, ASt.keep, keepL, consIf, List.contains_cons, BEq.rfl, Nat.reduceBEq, Bool.or_false, Bool.or_true, keepV, ex_region, ex_ops_cons, moveR, AV.const, Int.reduceLE, Int.reduceToNat, ex_need, idxAddrR, Option.isSome_some, Int.toNat_natCast, Nat.mul_one, storeR, TK.known, storeVar, storeCells, AV.flat, List.length_cons, List.length_nil, Bool.true_and, Nat.lt_irrefl, putAt, true_and, ex_ops_nil, ex_inBlock_n, ex_exit, ex_code_e, ex_rounds_e, ex_inBlock_same, ne_eq, Int.reduceEq, not_false_eq_true, Int.reduceTDiv, Int.reduceNeg, Int.cast_ofNat_Int, Int.reduceLT, and_self, Int.toNat_zero, Nat.add_zero, quietLoad, loadR, loadVar, TK.isAgg, loadOne, Int.reduceTMod, Int.reduceMul, ex_ord_unlock, Nat.reduceAdd, Nat.reduceLeDiff, List.take_zero, List.drop_succ_cons, List.drop_zero, Int.reduceAdd, List.take_succ_cons, Nat.le_refl, List.drop_nil, List.append_nil, ti23, ti25, ti160, decide_eq_true_eq, a5]
          refine next (i + 1, out.set (i + 8) c) _ ⟨by simp only; omega, ?_⟩ (by simp only; omega) ?_
          · rw [← p3]; exact p1
          · simp only
            rw [← wi64_nat i (by omega), ← a4]
            simp only [ASt.keep, consIf, keepL, keepV, AV.isBot, List.contains_cons, List.contains_nil, Nat.reduceBEq, Bool.or_false, Bool.false_or, Bool.or_true, Bool.true_or, beq_self_eq_true, Bool.false_eq_true, ↓reduceIte, if_false, if_true]
            rfl
    · have hge : i = 8 := by simp at h; omega
      subst hge
      clear next
      have hs := hp.sum
      have hz := hp.zero
      have hl := hp.len
      have hb := hp.lt
      rw [Nat.mod_eq_of_lt (by rw [← hU]; exact hn)] at hs
      obtain ⟨o0, o1, o2, o3, o4, o5, o6, o7, o8, o9, o10, o11, o12, o13, o14, o15, rfl⟩ := sixteen hl
      simp only [List.mem_cons, List.not_mem_nil, or_false, forall_eq_or_imp, forall_eq] at hb
      obtain ⟨b0, b1, b2, b3, b4, b5, b6, b7, b8, b9, b10, b11, b12, b13, b14, b15⟩ := hb
      clear hz hp
      have q0 := or_dig b0 b1
      have q1 := or_dig b2 b3
      have q2 := or_dig b4 b5
      have q3 := or_dig b6 b7
      have z0 := or_dig0 b0
      have z1 := or_dig0 b2
      have z2 := or_dig0 b4
      have z3 := or_dig0 b6
      have hz4 : u 0 = _ := u_eq (n := 0) (a := 0) (b := 0) (c := 0) (d := 0) (by decide) (by decide) (by decide) (by decide) rfl
      generalize n * m = p at hs
      simp only [go_sem, ↓reduceIte, Nat.reduceLT, Nat.reduceLeDiff, Nat.reduceAdd, Nat.reduceSub, Nat.reduceMul, Nat.reduceEqDiff, Nat.reduceBEq, Nat.reduceMod, Nat.reduceDiv, Int.reduceToNat, reduceCtorEq, Int.reduceLT, Int.reduceLE, Int.reduceGT, Int.reduceGE, Int.reduceAdd, Int.reduceSub, Int.reduceMul, Int.reduceNeg, Int.reduceEq, Int.reduceNe, Int.reduceBNe, Int.reduceBEq, Int.reduceDiv, un]
      refine ex_loop [4, 6, 11, 12] 9 ?_
      simp only [go_sem, ↓reduceIte, Nat.reduceLT, Nat.reduceLeDiff, Nat.reduceAdd, Nat.reduceSub, Nat.reduceMul, Nat.reduceEqDiff, Nat.reduceBEq, Nat.reduceMod, Nat.reduceDiv, Int.reduceToNat, reduceCtorEq, Int.reduceLT, Int.reduceLE, Int.reduceGT, Int.reduceGE, Int.reduceAdd, Int.reduceSub, Int.reduceMul, Int.reduceNeg, Int.reduceEq, Int.reduceNe, Int.reduceBNe, Int.reduceBEq, Int.reduceDiv, ex_round, Int.cast_ofNat_Int, wi64, Int.reduceTDiv, Int.reduceTMod]
      refine ex_br (fun h => ?_) (fun h => ?_)
      · have h := of_decide_eq_true h
        have hbig := val_big hU hs (j := 8) (by decide) rfl (by omega)
        rw [if_neg hbig, decide_eq_false hbig]
        simp only [go_sem, ↓reduceIte, Nat.reduceLT, Nat.reduceLeDiff, Nat.reduceAdd, Nat.reduceSub, Nat.reduceMul, Nat.reduceEqDiff, Nat.reduceBEq, Nat.reduceMod, Nat.reduceDiv, Int.reduceToNat, reduceCtorEq, Int.reduceLT, Int.reduceLE, Int.reduceGT, Int.reduceGE, Int.reduceAdd, Int.reduceSub, Int.reduceMul, Int.reduceNeg, Int.reduceEq, Int.reduceNe, Int.reduceBNe, Int.reduceBEq, Int.reduceDiv]
        refine finTup ?_
        show resOf _ _ [.cell 4 25, .tmp 5] = _
        rw [hz4]
        simp only [go_sem, ↓reduceIte, Nat.reduceLT, Nat.reduceLeDiff, Nat.reduceAdd, Nat.reduceSub, Nat.reduceMul, Nat.reduceEqDiff, Nat.reduceBEq, Nat.reduceMod, Nat.reduceDiv, Int.reduceToNat, reduceCtorEq, Int.reduceLT, Int.reduceLE, Int.reduceGT, Int.reduceGE, Int.reduceAdd, Int.reduceSub, Int.reduceMul, Int.reduceNeg, Int.reduceEq, Int.reduceNe, Int.reduceBNe, Int.reduceBEq, Int.reduceDiv]
        try rfl
      have h0 := of_decide_eq_false h
      clear h
      simp only [go_sem, ↓reduceIte, Nat.reduceLT, Nat.reduceLeDiff, Nat.reduceAdd, Nat.reduceSub, Nat.reduceMul, Nat.reduceEqDiff, Nat.reduceBEq, Nat.reduceMod, Nat.reduceDiv, Int.reduceToNat, reduceCtorEq, Int.reduceLT, Int.reduceLE, Int.reduceGT, Int.reduceGE, Int.reduceAdd, Int.reduceSub, Int.reduceMul, Int.reduceNeg, Int.reduceEq, Int.reduceNe, Int.reduceBNe, Int.reduceBEq, Int.reduceDiv]
      refine ex_draw [15] [] (.quiet 0 (.quiet 1 (.quiet 2 (.quiet 3 (.quiet 4 (.quiet 5 (.quiet 6 (.quiet 7 (.quiet 8 (.quiet 9 (.quiet 10 (.quiet 11 (.quiet 12 (.quiet 13 (.quiet 14 (.unlock (.one 15 (.fin)))))))))))))))))) (by kernel_rfl) ?_
      simp only [ASt.wrRes, R.chk, Cfg.may, Nat.reduceLT, decide_true, List.contains_nil, Bool.not_false, Bool.and_self, look, Nat.reduceEqDiff, ↓reduceIte, Option.isNone_none, ASt.wrResTo, AV.isImm, ASt.put, ins, Nat.lt_add_one, ex_ok, ex_ord_one, List.getElem?_cons_succ, List.getElem?_cons_zero, ex_oq_f, stepR, opR, callR, callEnd, argsGo, Nat.zero_add, List.tail_cons, Bool.false_eq_true, argImm, ASt.imm, ASt.rd, AV.seen, List.nil_append, List.cons_append, ex_ord_quiet, ex_oq_t, quietOp, binR, ASt.wrO, binInt, ASt.wr, ASt.wrTo, assignR, ex_ord_fin, ex_keep, ASt.keep, keepL, consIf, List.contains_cons, BEq.rfl, Nat.reduceBEq, Bool.or_false, Bool.or_true, keepV, ex_region, ex_ops_cons, moveR, AV.const, Int.reduceLE, Int.reduceToNat, ex_need, idxAddrR, Option.isSome_some, Int.toNat_natCast, Nat.mul_one, storeR, TK.known, storeVar, storeCells, AV.flat, List.length_cons, List.length_nil, Bool.true_and, Nat.lt_irrefl, putAt, true_and, ex_ops_nil, ex_inBlock_n, ex_exit, ex_code_e, ex_rounds_e, ex_inBlock_same, ne_eq, Int.reduceEq, not_false_eq_true, Int.reduceTDiv, Int.reduceNeg, Int.cast_ofNat_Int, Int.reduceLT, and_self, Int.toNat_zero, Nat.add_zero, quietLoad, loadR, loadVar, TK.isAgg, loadOne, Int.reduceTMod, Int.reduceMul, ex_ord_unlock, Nat.reduceAdd, Nat.reduceLeDiff, List.take_zero, List.drop_succ_cons, List.drop_zero, Int.reduceAdd, List.take_succ_cons, Nat.le_refl, List.drop_nil, List.append_nil, ti23, ti25, ti160, Int.cast_ofNat_Int, wi64, Int.reduceTDiv, Int.reduceTMod, q0, q1, q2, q3, z0, z1, z2, z3]
      simp only [go_sem, ↓reduceIte, Nat.reduceLT, Nat.reduceLeDiff, Nat.reduceAdd, Nat.reduceSub, Nat.reduceMul, Nat.reduceEqDiff, Nat.reduceBEq, Nat.reduceMod, Nat.reduceDiv, Int.reduceToNat, reduceCtorEq, Int.reduceLT, Int.reduceLE, Int.reduceGT, Int.reduceGE, Int.reduceAdd, Int.reduceSub, Int.reduceMul, Int.reduceNeg, Int.reduceEq, Int.reduceNe, Int.reduceBNe, Int.reduceBEq, Int.reduceDiv, ex_round, Int.cast_ofNat_Int, wi64, Int.reduceTDiv, Int.reduceTMod]
      refine ex_br (fun h => ?_) (fun h => ?_)
      · have h := of_decide_eq_true h
        have hbig := val_big hU hs (j := 9) (by decide) rfl (by omega)
        rw [if_neg hbig, decide_eq_false hbig]
        simp only [go_sem, ↓reduceIte, Nat.reduceLT, Nat.reduceLeDiff, Nat.reduceAdd, Nat.reduceSub, Nat.reduceMul, Nat.reduceEqDiff, Nat.reduceBEq, Nat.reduceMod, Nat.reduceDiv, Int.reduceToNat, reduceCtorEq, Int.reduceLT, Int.reduceLE, Int.reduceGT, Int.reduceGE, Int.reduceAdd, Int.reduceSub, Int.reduceMul, Int.reduceNeg, Int.reduceEq, Int.reduceNe, Int.reduceBNe, Int.reduceBEq, Int.reduceDiv]
        refine finTup ?_
        show resOf _ _ [.cell 4 25, .tmp 5] = _
        rw [hz4]
        simp only [go_sem, ↓reduceIte, Nat.reduceLT, Nat.reduceLeDiff, Nat.reduceAdd, Nat.reduceSub, Nat.reduceMul, Nat.reduceEqDiff, Nat.reduceBEq, Nat.reduceMod, Nat.reduceDiv, Int.reduceToNat, reduceCtorEq, Int.reduceLT, Int.reduceLE, Int.reduceGT, Int.reduceGE, Int.reduceAdd, Int.reduceSub, Int.reduceMul, Int.reduceNeg, Int.reduceEq, Int.reduceNe, Int.reduceBNe, Int.reduceBEq, Int.reduceDiv]
        try rfl
      have h1 := of_decide_eq_false h
      clear h
      simp only [go_sem, ↓reduceIte, Nat.reduceLT, Nat.reduceLeDiff, Nat.reduceAdd, Nat.reduceSub, Nat.reduceMul, Nat.reduceEqDiff, Nat.reduceBEq, Nat.reduceMod, Nat.reduceDiv, Int.reduceToNat, reduceCtorEq, Int.reduceLT, Int.reduceLE, Int.reduceGT, Int.reduceGE, Int.reduceAdd, Int.reduceSub, Int.reduceMul, Int.reduceNeg, Int.reduceEq, Int.reduceNe, Int.reduceBNe, Int.reduceBEq, Int.reduceDiv]
      refine ex_draw [15] [] (.quiet 0 (.quiet 1 (.quiet 2 (.quiet 3 (.quiet 4 (.quiet 5 (.quiet 6 (.quiet 7 (.quiet 8 (.quiet 9 (.quiet 10 (.quiet 11 (.quiet 12 (.quiet 13 (.quiet 14 (.unlock (.one 15 (.fin)))))))))))))))))) (by kernel_rfl) ?_
      simp only [ASt.wrRes, R.chk, Cfg.may, Nat.reduceLT, decide_true, List.contains_nil, Bool.not_false, Bool.and_self, look, Nat.reduceEqDiff, ↓reduceIte, Option.isNone_none, ASt.wrResTo, AV.isImm, ASt.put, ins, Nat.lt_add_one, ex_ok, ex_ord_one, List.getElem?_cons_succ, List.getElem?_cons_zero, ex_oq_f, stepR, opR, callR, callEnd, argsGo, Nat.zero_add, List.tail_cons, Bool.false_eq_true, argImm, ASt.imm, ASt.rd, AV.seen, List.nil_append, List.cons_append, ex_ord_quiet, ex_oq_t, quietOp, binR, ASt.wrO, binInt, ASt.wr, ASt.wrTo, assignR, ex_ord_fin, ex_keep, ASt.keep, keepL, consIf, List.contains_cons, BEq.rfl, Nat.reduceBEq, Bool.or_false, Bool.or_true, keepV, ex_region, ex_ops_cons, moveR, AV.const, Int.reduceLE, Int.reduceToNat, ex_need, idxAddrR, Option.isSome_some, Int.toNat_natCast, Nat.mul_one, storeR, TK.known, storeVar, storeCells, AV.flat, List.length_cons, List.length_nil, Bool.true_and, Nat.lt_irrefl, putAt, true_and, ex_ops_nil, ex_inBlock_n, ex_exit, ex_code_e, ex_rounds_e, ex_inBlock_same, ne_eq, Int.reduceEq, not_false_eq_true, Int.reduceTDiv, Int.reduceNeg, Int.cast_ofNat_Int, Int.reduceLT, and_self, Int.toNat_zero, Nat.add_zero, quietLoad, loadR, loadVar, TK.isAgg, loadOne, Int.reduceTMod, Int.reduceMul, ex_ord_unlock, Nat.reduceAdd, Nat.reduceLeDiff, List.take_zero, List.drop_succ_cons, List.drop_zero, Int.reduceAdd, List.take_succ_cons, Nat.le_refl, List.drop_nil, List.append_nil, ti23, ti25, ti160, Int.cast_ofNat_Int, wi64, Int.reduceTDiv, Int.reduceTMod, q0, q1, q2, q3, z0, z1, z2, z3]
      simp only [go_sem, ↓reduceIte, Nat.reduceLT, Nat.reduceLeDiff, Nat.reduceAdd, Nat.reduceSub, Nat.reduceMul, Nat.reduceEqDiff, Nat.reduceBEq, Nat.reduceMod, Nat.reduceDiv, Int.reduceToNat, reduceCtorEq, Int.reduceLT, Int.reduceLE, Int.reduceGT, Int.reduceGE, Int.reduceAdd, Int.reduceSub, Int.reduceMul, Int.reduceNeg, Int.reduceEq, Int.reduceNe, Int.reduceBNe, Int.reduceBEq, Int.reduceDiv, ex_round, Int.cast_ofNat_Int, wi64, Int.reduceTDiv, Int.reduceTMod]
      refine ex_br (fun h => ?_) (fun h => ?_)
      · have h := of_decide_eq_true h
        have hbig := val_big hU hs (j := 10) (by decide) rfl (by omega)
        rw [if_neg hbig, decide_eq_false hbig]
        simp only [go_sem, ↓reduceIte, Nat.reduceLT, Nat.reduceLeDiff, Nat.reduceAdd, Nat.reduceSub, Nat.reduceMul, Nat.reduceEqDiff, Nat.reduceBEq, Nat.reduceMod, Nat.reduceDiv, Int.reduceToNat, reduceCtorEq, Int.reduceLT, Int.reduceLE, Int.reduceGT, Int.reduceGE, Int.reduceAdd, Int.reduceSub, Int.reduceMul, Int.reduceNeg, Int.reduceEq, Int.reduceNe, Int.reduceBNe, Int.reduceBEq, Int.reduceDiv]
        refine finTup ?_
        show resOf _ _ [.cell 4 25, .tmp 5] = _
        rw [hz4]
        simp only [go_sem, ↓reduceIte, Nat.reduceLT, Nat.reduceLeDiff, Nat.reduceAdd, Nat.reduceSub, Nat.reduceMul, Nat.reduceEqDiff, Nat.reduceBEq, Nat.reduceMod, Nat.reduceDiv, Int.reduceToNat, reduceCtorEq, Int.reduceLT, Int.reduceLE, Int.reduceGT, Int.reduceGE, Int.reduceAdd, Int.reduceSub, Int.reduceMul, Int.reduceNeg, Int.reduceEq, Int.reduceNe, Int.reduceBNe, Int.reduceBEq, Int.reduceDiv]
        try rfl
      have h2 := of_decide_eq_false h
      clear h
      simp only [go_sem, ↓reduceIte, Nat.reduceLT, Nat.reduceLeDiff, Nat.reduceAdd, Nat.reduceSub, Nat.reduceMul, Nat.reduceEqDiff, Nat.reduceBEq, Nat.reduceMod, Nat.reduceDiv, Int.reduceToNat, reduceCtorEq, Int.reduceLT, Int.reduceLE, Int.reduceGT, Int.reduceGE, Int.reduceAdd, Int.reduceSub, Int.reduceMul, Int.reduceNeg, Int.reduceEq, Int.reduceNe, Int.reduceBNe, Int.reduceBEq, Int.reduceDiv]
      refine ex_draw [15] [] (.quiet 0 (.quiet 1 (.quiet 2 (.quiet 3 (.quiet 4 (.quiet 5 (.quiet 6 (.quiet 7 (.quiet 8 (.quiet 9 (.quiet 10 (.quiet 11 (.quiet 12 (.quiet 13 (.quiet 14 (.unlock (.one 15 (.fin)))))))))))))))))) (by kernel_rfl) ?_
      simp only [ASt.wrRes, R.chk, Cfg.may, Nat.reduceLT, decide_true, List.contains_nil, Bool.not_false, Bool.and_self, look, Nat.reduceEqDiff, ↓reduceIte, Option.isNone_none, ASt.wrResTo, AV.isImm, ASt.put, ins, Nat.lt_add_one, ex_ok, ex_ord_one, List.getElem?_cons_succ, List.getElem?_cons_zero, ex_oq_f, stepR, opR, callR, callEnd, argsGo, Nat.zero_add, List.tail_cons, Bool.false_eq_true, argImm, ASt.imm, ASt.rd, AV.seen, List.nil_append, List.cons_append, ex_ord_quiet, ex_oq_t, quietOp, binR, ASt.wrO, binInt, ASt.wr, ASt.wrTo, assignR, ex_ord_fin, ex_keep, ASt.keep, keepL, consIf, List.contains_cons, BEq.rfl, Nat.reduceBEq, Bool.or_false, Bool.or_true, keepV, ex_region, ex_ops_cons, moveR, AV.const, Int.reduceLE, Int.reduceToNat, ex_need, idxAddrR, Option.isSome_some, Int.toNat_natCast, Nat.mul_one, storeR, TK.known, storeVar, storeCells, AV.flat, List.length_cons, List.length_nil, Bool.true_and, Nat.lt_irrefl, putAt, true_and, ex_ops_nil, ex_inBlock_n, ex_exit, ex_code_e, ex_rounds_e, ex_inBlock_same, ne_eq, Int.reduceEq, not_false_eq_true, Int.reduceTDiv, Int.reduceNeg, Int.cast_ofNat_Int, Int.reduceLT, and_self, Int.toNat_zero, Nat.add_zero, quietLoad, loadR, loadVar, TK.isAgg, loadOne, Int.reduceTMod, Int.reduceMul, ex_ord_unlock, Nat.reduceAdd, Nat.reduceLeDiff, List.take_zero, List.drop_succ_cons, List.drop_zero, Int.reduceAdd, List.take_succ_cons, Nat.le_refl, List.drop_nil, List.append_nil, ti23, ti25, ti160, Int.cast_ofNat_Int, wi64, Int.reduceTDiv, Int.reduceTMod, q0, q1, q2, q3, z0, z1, z2, z3]
      simp only [go_sem, ↓reduceIte, Nat.reduceLT, Nat.reduceLeDiff, Nat.reduceAdd, Nat.reduceSub, Nat.reduceMul, Nat.reduceEqDiff, Nat.reduceBEq, Nat.reduceMod, Nat.reduceDiv, Int.reduceToNat, reduceCtorEq, Int.reduceLT, Int.reduceLE, Int.reduceGT, Int.reduceGE, Int.reduceAdd, Int.reduceSub, Int.reduceMul, Int.reduceNeg, Int.reduceEq, Int.reduceNe, Int.reduceBNe, Int.reduceBEq, Int.reduceDiv, ex_round, Int.cast_ofNat_Int, wi64, Int.reduceTDiv, Int.reduceTMod]
      refine ex_br (fun h => ?_) (fun h => ?_)
      · have h := of_decide_eq_true h
        have hbig := val_big hU hs (j := 11) (by decide) rfl (by omega)
        rw [if_neg hbig, decide_eq_false hbig]
        simp only [go_sem, ↓reduceIte, Nat.reduceLT, Nat.reduceLeDiff, Nat.reduceAdd, Nat.reduceSub, Nat.reduceMul, Nat.reduceEqDiff, Nat.reduceBEq, Nat.reduceMod, Nat.reduceDiv, Int.reduceToNat, reduceCtorEq, Int.reduceLT, Int.reduceLE, Int.reduceGT, Int.reduceGE, Int.reduceAdd, Int.reduceSub, Int.reduceMul, Int.reduceNeg, Int.reduceEq, Int.reduceNe, Int.reduceBNe, Int.reduceBEq, Int.reduceDiv]
        refine finTup ?_
        show resOf _ _ [.cell 4 25, .tmp 5] = _
        rw [hz4]
        simp only [go_sem, ↓reduceIte, Nat.reduceLT, Nat.reduceLeDiff, Nat.reduceAdd, Nat.reduceSub, Nat.reduceMul, Nat.reduceEqDiff, Nat.reduceBEq, Nat.reduceMod, Nat.reduceDiv, Int.reduceToNat, reduceCtorEq, Int.reduceLT, Int.reduceLE, Int.reduceGT, Int.reduceGE, Int.reduceAdd, Int.reduceSub, Int.reduceMul, Int.reduceNeg, Int.reduceEq, Int.reduceNe, Int.reduceBNe, Int.reduceBEq, Int.reduceDiv]
        try rfl
      have h3 := of_decide_eq_false h
      clear h
      simp only [go_sem, ↓reduceIte, Nat.reduceLT, Nat.reduceLeDiff, Nat.reduceAdd, Nat.reduceSub, Nat.reduceMul, Nat.reduceEqDiff, Nat.reduceBEq, Nat.reduceMod, Nat.reduceDiv, Int.reduceToNat, reduceCtorEq, Int.reduceLT, Int.reduceLE, Int.reduceGT, Int.reduceGE, Int.reduceAdd, Int.reduceSub, Int.reduceMul, Int.reduceNeg, Int.reduceEq, Int.reduceNe, Int.reduceBNe, Int.reduceBEq, Int.reduceDiv]
      refine ex_draw [15] [] (.quiet 0 (.quiet 1 (.quiet 2 (.quiet 3 (.quiet 4 (.quiet 5 (.quiet 6 (.quiet 7 (.quiet 8 (.quiet 9 (.quiet 10 (.quiet 11 (.quiet 12 (.quiet 13 (.quiet 14 (.unlock (.one 15 (.fin)))))))))))))))))) (by kernel_rfl) ?_
      simp only [ASt.wrRes, R.chk, Cfg.may, Nat.reduceLT, decide_true, List.contains_nil, Bool.not_false, Bool.and_self, look, Nat.reduceEqDiff, ↓reduceIte, Option.isNone_none, ASt.wrResTo, AV.isImm, ASt.put, ins, Nat.lt_add_one, ex_ok, ex_ord_one, List.getElem?_cons_succ, List.getElem?_cons_zero, ex_oq_f, stepR, opR, callR, callEnd, argsGo, Nat.zero_add, List.tail_cons, Bool.false_eq_true, argImm, ASt.imm, ASt.rd, AV.seen, List.nil_append, List.cons_append, ex_ord_quiet, ex_oq_t, quietOp, binR, ASt.wrO, binInt, ASt.wr, ASt.wrTo, assignR, ex_ord_fin, ex_keep, ASt.keep, keepL, consIf, List.contains_cons, BEq.rfl, Nat.reduceBEq, Bool.or_false, Bool.or_true, keepV, ex_region, ex_ops_cons, moveR, AV.const, Int.reduceLE, Int.reduceToNat, ex_need, idxAddrR, Option.isSome_some, Int.toNat_natCast, Nat.mul_one, storeR, TK.known, storeVar, storeCells, AV.flat, List.length_cons, List.length_nil, Bool.true_and, Nat.lt_irrefl, putAt, true_and, ex_ops_nil, ex_inBlock_n, ex_exit, ex_code_e, ex_rounds_e, ex_inBlock_same, ne_eq, Int.reduceEq, not_false_eq_true, Int.reduceTDiv, Int.reduceNeg, Int.cast_ofNat_Int, Int.reduceLT, and_self, Int.toNat_zero, Nat.add_zero, quietLoad, loadR, loadVar, TK.isAgg, loadOne, Int.reduceTMod, Int.reduceMul, ex_ord_unlock, Nat.reduceAdd, Nat.reduceLeDiff, List.take_zero, List.drop_succ_cons, List.drop_zero, Int.reduceAdd, List.take_succ_cons, Nat.le_refl, List.drop_nil, List.append_nil, ti23, ti25, ti160, Int.cast_ofNat_Int, wi64, Int.reduceTDiv, Int.reduceTMod, q0, q1, q2, q3, z0, z1, z2, z3]
      simp only [go_sem, ↓reduceIte, Nat.reduceLT, Nat.reduceLeDiff, Nat.reduceAdd, Nat.reduceSub, Nat.reduceMul, Nat.reduceEqDiff, Nat.reduceBEq, Nat.reduceMod, Nat.reduceDiv, Int.reduceToNat, reduceCtorEq, Int.reduceLT, Int.reduceLE, Int.reduceGT, Int.reduceGE, Int.reduceAdd, Int.reduceSub, Int.reduceMul, Int.reduceNeg, Int.reduceEq, Int.reduceNe, Int.reduceBNe, Int.reduceBEq, Int.reduceDiv, ex_round, Int.cast_ofNat_Int, wi64, Int.reduceTDiv, Int.reduceTMod]
      refine ex_br (fun h => ?_) (fun h => ?_)
      · have h := of_decide_eq_true h
        have hbig := val_big hU hs (j := 12) (by decide) rfl (by omega)
        rw [if_neg hbig, decide_eq_false hbig]
        simp only [go_sem, ↓reduceIte, Nat.reduceLT, Nat.reduceLeDiff, Nat.reduceAdd, Nat.reduceSub, Nat.reduceMul, Nat.reduceEqDiff, Nat.reduceBEq, Nat.reduceMod, Nat.reduceDiv, Int.reduceToNat, reduceCtorEq, Int.reduceLT, Int.reduceLE, Int.reduceGT, Int.reduceGE, Int.reduceAdd, Int.reduceSub, Int.reduceMul, Int.reduceNeg, Int.reduceEq, Int.reduceNe, Int.reduceBNe, Int.reduceBEq, Int.reduceDiv]
        refine finTup ?_
        show resOf _ _ [.cell 4 25, .tmp 5] = _
        rw [hz4]
        simp only [go_sem, ↓reduceIte, Nat.reduceLT, Nat.reduceLeDiff, Nat.reduceAdd, Nat.reduceSub, Nat.reduceMul, Nat.reduceEqDiff, Nat.reduceBEq, Nat.reduceMod, Nat.reduceDiv, Int.reduceToNat, reduceCtorEq, Int.reduceLT, Int.reduceLE, Int.reduceGT, Int.reduceGE, Int.reduceAdd, Int.reduceSub, Int.reduceMul, Int.reduceNeg, Int.reduceEq, Int.reduceNe, Int.reduceBNe, Int.reduceBEq, Int.reduceDiv]
        try rfl
      have h4 := of_decide_eq_false h
      clear h
      simp only [go_sem, ↓reduceIte, Nat.reduceLT, Nat.reduceLeDiff, Nat.reduceAdd, Nat.reduceSub, Nat.reduceMul, Nat.reduceEqDiff, Nat.reduceBEq, Nat.reduceMod, Nat.reduceDiv, Int.reduceToNat, reduceCtorEq, Int.reduceLT, Int.reduceLE, Int.reduceGT, Int.reduceGE, Int.reduceAdd, Int.reduceSub, Int.reduceMul, Int.reduceNeg, Int.reduceEq, Int.reduceNe, Int.reduceBNe, Int.reduceBEq, Int.reduceDiv]
      refine ex_draw [15] [] (.quiet 0 (.quiet 1 (.quiet 2 (.quiet 3 (.quiet 4 (.quiet 5 (.quiet 6 (.quiet 7 (.quiet 8 (.quiet 9 (.quiet 10 (.quiet 11 (.quiet 12 (.quiet 13 (.quiet 14 (.unlock (.one 15 (.fin)))))))))))))))))) (by kernel_rfl) ?_
      simp only [ASt.wrRes, R.chk, Cfg.may, Nat.reduceLT, decide_true, List.contains_nil, Bool.not_false, Bool.and_self, look, Nat.reduceEqDiff, ↓reduceIte, Option.isNone_none, ASt.wrResTo, AV.isImm, ASt.put, ins, Nat.lt_add_one, ex_ok, ex_ord_one, List.getElem?_cons_succ, List.getElem?_cons_zero, ex_oq_f, stepR, opR, callR, callEnd, argsGo, Nat.zero_add, List.tail_cons, Bool.false_eq_true, argImm, ASt.imm, ASt.rd, AV.seen, List.nil_append, List.cons_append, ex_ord_quiet, ex_oq_t, quietOp, binR, ASt.wrO, binInt, ASt.wr, ASt.wrTo, assignR, ex_ord_fin, ex_keep, ASt.keep, keepL, consIf, List.contains_cons, BEq.rfl, Nat.reduceBEq, Bool.or_false, Bool.or_true, keepV, ex_region, ex_ops_cons, moveR, AV.const, Int.reduceLE, Int.reduceToNat, ex_need, idxAddrR, Option.isSome_some, Int.toNat_natCast, Nat.mul_one, storeR, TK.known, storeVar, storeCells, AV.flat, List.length_cons, List.length_nil, Bool.true_and, Nat.lt_irrefl, putAt, true_and, ex_ops_nil, ex_inBlock_n, ex_exit, ex_code_e, ex_rounds_e, ex_inBlock_same, ne_eq, Int.reduceEq, not_false_eq_true, Int.reduceTDiv, Int.reduceNeg, Int.cast_ofNat_Int, Int.reduceLT, and_self, Int.toNat_zero, Nat.add_zero, quietLoad, loadR, loadVar, TK.isAgg, loadOne, Int.reduceTMod, Int.reduceMul, ex_ord_unlock, Nat.reduceAdd, Nat.reduceLeDiff, List.take_zero, List.drop_succ_cons, List.drop_zero, Int.reduceAdd, List.take_succ_cons, Nat.le_refl, List.drop_nil, List.append_nil, ti23, ti25, ti160, Int.cast_ofNat_Int, wi64, Int.reduceTDiv, Int.reduceTMod, q0, q1, q2, q3, z0, z1, z2, z3]
      simp only [go_sem, ↓reduceIte, Nat.reduceLT, Nat.reduceLeDiff, Nat.reduceAdd, Nat.reduceSub, Nat.reduceMul, Nat.reduceEqDiff, Nat.reduceBEq, Nat.reduceMod, Nat.reduceDiv, Int.reduceToNat, reduceCtorEq, Int.reduceLT, Int.reduceLE, Int.reduceGT, Int.reduceGE, Int.reduceAdd, Int.reduceSub, Int.reduceMul, Int.reduceNeg, Int.reduceEq, Int.reduceNe, Int.reduceBNe, Int.reduceBEq, Int.reduceDiv, ex_round, Int.cast_ofNat_Int, wi64, Int.reduceTDiv, Int.reduceTMod]
      refine ex_br (fun h => ?_) (fun h => ?_)
      · have h := of_decide_eq_true h
        have hbig := val_big hU hs (j := 13) (by decide) rfl (by omega)
        rw [if_neg hbig, decide_eq_false hbig]
        simp only [go_sem, ↓reduceIte, Nat.reduceLT, Nat.reduceLeDiff, Nat.reduceAdd, Nat.reduceSub, Nat.reduceMul, Nat.reduceEqDiff, Nat.reduceBEq, Nat.reduceMod, Nat.reduceDiv, Int.reduceToNat, reduceCtorEq, Int.reduceLT, Int.reduceLE, Int.reduceGT, Int.reduceGE, Int.reduceAdd, Int.reduceSub, Int.reduceMul, Int.reduceNeg, Int.reduceEq, Int.reduceNe, Int.reduceBNe, Int.reduceBEq, Int.reduceDiv]
        refine finTup ?_
        show resOf _ _ [.cell 4 25, .tmp 5] = _
        rw [hz4]
        simp only [go_sem, ↓reduceIte, Nat.reduceLT, Nat.reduceLeDiff, Nat.reduceAdd, Nat.reduceSub, Nat.reduceMul, Nat.reduceEqDiff, Nat.reduceBEq, Nat.reduceMod, Nat.reduceDiv, Int.reduceToNat, reduceCtorEq, Int.reduceLT, Int.reduceLE, Int.reduceGT, Int.reduceGE, Int.reduceAdd, Int.reduceSub, Int.reduceMul, Int.reduceNeg, Int.reduceEq, Int.reduceNe, Int.reduceBNe, Int.reduceBEq, Int.reduceDiv]
        try rfl
      have h5 := of_decide_eq_false h
      clear h
      simp only [go_sem, ↓reduceIte, Nat.reduceLT, Nat.reduceLeDiff, Nat.reduceAdd, Nat.reduceSub, Nat.reduceMul, Nat.reduceEqDiff, Nat.reduceBEq, Nat.reduceMod, Nat.reduceDiv, Int.reduceToNat, reduceCtorEq, Int.reduceLT, Int.reduceLE, Int.reduceGT, Int.reduceGE, Int.reduceAdd, Int.reduceSub, Int.reduceMul, Int.reduceNeg, Int.reduceEq, Int.reduceNe, Int.reduceBNe, Int.reduceBEq, Int.reduceDiv]
      refine ex_draw [15] [] (.quiet 0 (.quiet 1 (.quiet 2 (.quiet 3 (.quiet 4 (.quiet 5 (.quiet 6 (.quiet 7 (.quiet 8 (.quiet 9 (.quiet 10 (.quiet 11 (.quiet 12 (.quiet 13 (.quiet 14 (.unlock (.one 15 (.fin)))))))))))))))))) (by kernel_rfl) ?_
      simp only [ASt.wrRes, R.chk, Cfg.may, Nat.reduceLT, decide_true, List.contains_nil, Bool.not_false, Bool.and_self, look, Nat.reduceEqDiff, ↓reduceIte, Option.isNone_none, ASt.wrResTo, AV.isImm, ASt.put, ins, Nat.lt_add_one, ex_ok, ex_ord_one, List.getElem?_cons_succ, List.getElem?_cons_zero, ex_oq_f, stepR, opR, callR, callEnd, argsGo, Nat.zero_add, List.tail_cons, Bool.false_eq_true, argImm, ASt.imm, ASt.rd, AV.seen, List.nil_append, List.cons_append, ex_ord_quiet, ex_oq_t, quietOp, binR, ASt.wrO, binInt, ASt.wr, ASt.wrTo, assignR, ex_ord_fin, ex_keep, ASt.keep, keepL, consIf, List.contains_cons, BEq.rfl, Nat.reduceBEq, Bool.or_false, Bool.or_true, keepV, ex_region, ex_ops_cons, moveR, AV.const, Int.reduceLE, Int.reduceToNat, ex_need, idxAddrR, Option.isSome_some, Int.toNat_natCast, Nat.mul_one, storeR, TK.known, storeVar, storeCells, AV.flat, List.length_cons, List.length_nil, Bool.true_and, Nat.lt_irrefl, putAt, true_and, ex_ops_nil, ex_inBlock_n, ex_exit, ex_code_e, ex_rounds_e, ex_inBlock_same, ne_eq, Int.reduceEq, not_false_eq_true, Int.reduceTDiv, Int.reduceNeg, Int.cast_ofNat_Int, Int.reduceLT, and_self, Int.toNat_zero, Nat.add_zero, quietLoad, loadR, loadVar, TK.isAgg, loadOne, Int.reduceTMod, Int.reduceMul, ex_ord_unlock, Nat.reduceAdd, Nat.reduceLeDiff, List.take_zero, List.drop_succ_cons, List.drop_zero, Int.reduceAdd, List.take_succ_cons, Nat.le_refl, List.drop_nil, List.append_nil, ti23, ti25, ti160, Int.cast_ofNat_Int, wi64, Int.reduceTDiv, Int.reduceTMod, q0, q1, q2, q3, z0, z1, z2, z3]
      simp only [go_sem, ↓reduceIte, Nat.reduceLT, Nat.reduceLeDiff, Nat.reduceAdd, Nat.reduceSub, Nat.reduceMul, Nat.reduceEqDiff, Nat.reduceBEq, Nat.reduceMod, Nat.reduceDiv, Int.reduceToNat, reduceCtorEq, Int.reduceLT, Int.reduceLE, Int.reduceGT, Int.reduceGE, Int.reduceAdd, Int.reduceSub, Int.reduceMul, Int.reduceNeg, Int.reduceEq, Int.reduceNe, Int.reduceBNe, Int.reduceBEq, Int.reduceDiv, ex_round, Int.cast_ofNat_Int, wi64, Int.reduceTDiv, Int.reduceTMod]
      refine ex_br (fun h => ?_) (fun h => ?_)
      · have h := of_decide_eq_true h
        have hbig := val_big hU hs (j := 14) (by decide) rfl (by omega)
        rw [if_neg hbig, decide_eq_false hbig]
        simp only [go_sem, ↓reduceIte, Nat.reduceLT, Nat.reduceLeDiff, Nat.reduceAdd, Nat.reduceSub, Nat.reduceMul, Nat.reduceEqDiff, Nat.reduceBEq, Nat.reduceMod, Nat.reduceDiv, Int.reduceToNat, reduceCtorEq, Int.reduceLT, Int.reduceLE, Int.reduceGT, Int.reduceGE, Int.reduceAdd, Int.reduceSub, Int.reduceMul, Int.reduceNeg, Int.reduceEq, Int.reduceNe, Int.reduceBNe, Int.reduceBEq, Int.reduceDiv]
        refine finTup ?_
        show resOf _ _ [.cell 4 25, .tmp 5] = _
        rw [hz4]
        simp only [go_sem, ↓reduceIte, Nat.reduceLT, Nat.reduceLeDiff, Nat.reduceAdd, Nat.reduceSub, Nat.reduceMul, Nat.reduceEqDiff, Nat.reduceBEq, Nat.reduceMod, Nat.reduceDiv, Int.reduceToNat, reduceCtorEq, Int.reduceLT, Int.reduceLE, Int.reduceGT, Int.reduceGE, Int.reduceAdd, Int.reduceSub, Int.reduceMul, Int.reduceNeg, Int.reduceEq, Int.reduceNe, Int.reduceBNe, Int.reduceBEq, Int.reduceDiv]
        try rfl
      have h6 := of_decide_eq_false h
      clear h
      simp only [go_sem, ↓reduceIte, Nat.reduceLT, Nat.reduceLeDiff, Nat.reduceAdd, Nat.reduceSub, Nat.reduceMul, Nat.reduceEqDiff, Nat.reduceBEq, Nat.reduceMod, Nat.reduceDiv, Int.reduceToNat, reduceCtorEq, Int.reduceLT, Int.reduceLE, Int.reduceGT, Int.reduceGE, Int.reduceAdd, Int.reduceSub, Int.reduceMul, Int.reduceNeg, Int.reduceEq, Int.reduceNe, Int.reduceBNe, Int.reduceBEq, Int.reduceDiv]
      refine ex_draw [15] [] (.quiet 0 (.quiet 1 (.quiet 2 (.quiet 3 (.quiet 4 (.quiet 5 (.quiet 6 (.quiet 7 (.quiet 8 (.quiet 9 (.quiet 10 (.quiet 11 (.quiet 12 (.quiet 13 (.quiet 14 (.unlock (.one 15 (.fin)))))))))))))))))) (by kernel_rfl) ?_
      simp only [ASt.wrRes, R.chk, Cfg.may, Nat.reduceLT, decide_true, List.contains_nil, Bool.not_false, Bool.and_self, look, Nat.reduceEqDiff, ↓reduceIte, Option.isNone_none, ASt.wrResTo, AV.isImm, ASt.put, ins, Nat.lt_add_one, ex_ok, ex_ord_one, List.getElem?_cons_succ, List.getElem?_cons_zero, ex_oq_f, stepR, opR, callR, callEnd, argsGo, Nat.zero_add, List.tail_cons, Bool.false_eq_true, argImm, ASt.imm, ASt.rd, AV.seen, List.nil_append, List.cons_append, ex_ord_quiet, ex_oq_t, quietOp, binR, ASt.wrO, binInt, ASt.wr, ASt.wrTo, assignR, ex_ord_fin, ex_keep, ASt.keep, keepL, consIf, List.contains_cons, BEq.rfl, Nat.reduceBEq, Bool.or_false, Bool.or_true, keepV, ex_region, ex_ops_cons, moveR, AV.const, Int.reduceLE, Int.reduceToNat, ex_need, idxAddrR, Option.isSome_some, Int.toNat_natCast, Nat.mul_one, storeR, TK.known, storeVar, storeCells, AV.flat, List.length_cons, List.length_nil, Bool.true_and, Nat.lt_irrefl, putAt, true_and, ex_ops_nil, ex_inBlock_n, ex_exit, ex_code_e, ex_rounds_e, ex_inBlock_same, ne_eq, Int.reduceEq, not_false_eq_true, Int.reduceTDiv, Int.reduceNeg, Int.cast_ofNat_Int, Int.reduceLT, and_self, Int.toNat_zero, Nat.add_zero, quietLoad, loadR, loadVar, TK.isAgg, loadOne, Int.reduceTMod, Int.reduceMul, ex_ord_unlock, Nat.reduceAdd, Nat.reduceLeDiff, List.take_zero, List.drop_succ_cons, List.drop_zero, Int.reduceAdd, List.take_succ_cons, Nat.le_refl, List.drop_nil, List.append_nil, ti23, ti25, ti160, Int.cast_ofNat_Int, wi64, Int.reduceTDiv, Int.reduceTMod, q0, q1, q2, q3, z0, z1, z2, z3]
      simp only [go_sem, ↓reduceIte, Nat.reduceLT, Nat.reduceLeDiff, Nat.reduceAdd, Nat.reduceSub, Nat.reduceMul, Nat.reduceEqDiff, Nat.reduceBEq, Nat.reduceMod, Nat.reduceDiv, Int.reduceToNat, reduceCtorEq, Int.reduceLT, Int.reduceLE, Int.reduceGT, Int.reduceGE, Int.reduceAdd, Int.reduceSub, Int.reduceMul, Int.reduceNeg, Int.reduceEq, Int.reduceNe, Int.reduceBNe, Int.reduceBEq, Int.reduceDiv, ex_round, Int.cast_ofNat_Int, wi64, Int.reduceTDiv, Int.reduceTMod]
      refine ex_br (fun h => ?_) (fun h => ?_)
      · have h := of_decide_eq_true h
        have hbig := val_big hU hs (j := 15) (by decide) rfl (by omega)
        rw [if_neg hbig, decide_eq_false hbig]
        simp only [go_sem, ↓reduceIte, Nat.reduceLT, Nat.reduceLeDiff, Nat.reduceAdd, Nat.reduceSub, Nat.reduceMul, Nat.reduceEqDiff, Nat.reduceBEq, Nat.reduceMod, Nat.reduceDiv, Int.reduceToNat, reduceCtorEq, Int.reduceLT, Int.reduceLE, Int.reduceGT, Int.reduceGE, Int.reduceAdd, Int.reduceSub, Int.reduceMul, Int.reduceNeg, Int.reduceEq, Int.reduceNe, Int.reduceBNe, Int.reduceBEq, Int.reduceDiv]
        refine finTup ?_
        show resOf _ _ [.cell 4 25, .tmp 5] = _
        rw [hz4]
        simp only [go_sem, ↓reduceIte, Nat.reduceLT, Nat.reduceLeDiff, Nat.reduceAdd, Nat.reduceSub, Nat.reduceMul, Nat.reduceEqDiff, Nat.reduceBEq, Nat.reduceMod, Nat.reduceDiv, Int.reduceToNat, reduceCtorEq, Int.reduceLT, Int.reduceLE, Int.reduceGT, Int.reduceGE, Int.reduceAdd, Int.reduceSub, Int.reduceMul, Int.reduceNeg, Int.reduceEq, Int.reduceNe, Int.reduceBNe, Int.reduceBEq, Int.reduceDiv]
        try rfl
      have h7 := of_decide_eq_false h
      clear h
      simp only [go_sem, ↓reduceIte, Nat.reduceLT, Nat.reduceLeDiff, Nat.reduceAdd, Nat.reduceSub, Nat.reduceMul, Nat.reduceEqDiff, Nat.reduceBEq, Nat.reduceMod, Nat.reduceDiv, Int.reduceToNat, reduceCtorEq, Int.reduceLT, Int.reduceLE, Int.reduceGT, Int.reduceGE, Int.reduceAdd, Int.reduceSub, Int.reduceMul, Int.reduceNeg, Int.reduceEq, Int.reduceNe, Int.reduceBNe, Int.reduceBEq, Int.reduceDiv]
      refine ex_draw [15] [] (.quiet 0 (.quiet 1 (.quiet 2 (.quiet 3 (.quiet 4 (.quiet 5 (.quiet 6 (.quiet 7 (.quiet 8 (.quiet 9 (.quiet 10 (.quiet 11 (.quiet 12 (.quiet 13 (.quiet 14 (.unlock (.one 15 (.fin)))))))))))))))))) (by kernel_rfl) ?_
      simp only [ASt.wrRes, R.chk, Cfg.may, Nat.reduceLT, decide_true, List.contains_nil, Bool.not_false, Bool.and_self, look, Nat.reduceEqDiff, ↓reduceIte, Option.isNone_none, ASt.wrResTo, AV.isImm, ASt.put, ins, Nat.lt_add_one, ex_ok, ex_ord_one, List.getElem?_cons_succ, List.getElem?_cons_zero, ex_oq_f, stepR, opR, callR, callEnd, argsGo, Nat.zero_add, List.tail_cons, Bool.false_eq_true, argImm, ASt.imm, ASt.rd, AV.seen, List.nil_append, List.cons_append, ex_ord_quiet, ex_oq_t, quietOp, binR, ASt.wrO, binInt, ASt.wr, ASt.wrTo, assignR, ex_ord_fin, ex_keep, ASt.keep, keepL, consIf, List.contains_cons, BEq.rfl, Nat.reduceBEq, Bool.or_false, Bool.or_true, keepV, ex_region, ex_ops_cons, moveR, AV.const, Int.reduceLE, Int.reduceToNat, ex_need, idxAddrR, Option.isSome_some, Int.toNat_natCast, Nat.mul_one, storeR, TK.known, storeVar, storeCells, AV.flat, List.length_cons, List.length_nil, Bool.true_and, Nat.lt_irrefl, putAt, true_and, ex_ops_nil, ex_inBlock_n, ex_exit, ex_code_e, ex_rounds_e, ex_inBlock_same, ne_eq, Int.reduceEq, not_false_eq_true, Int.reduceTDiv, Int.reduceNeg, Int.cast_ofNat_Int, Int.reduceLT, and_self, Int.toNat_zero, Nat.add_zero, quietLoad, loadR, loadVar, TK.isAgg, loadOne, Int.reduceTMod, Int.reduceMul, ex_ord_unlock, Nat.reduceAdd, Nat.reduceLeDiff, List.take_zero, List.drop_succ_cons, List.drop_zero, Int.reduceAdd, List.take_succ_cons, Nat.le_refl, List.drop_nil, List.append_nil, ti23, ti25, ti160, Int.cast_ofNat_Int, wi64, Int.reduceTDiv, Int.reduceTMod, q0, q1, q2, q3, z0, z1, z2, z3]
      obtain ⟨c1, c2⟩ := val_small hU hs b0 b1 b2 b3 b4 b5 b6 b7 (by omega) (by omega) (by omega) (by omega) (by omega) (by omega) (by omega) (by omega)
      rw [if_pos c1, decide_eq_true c1, u_eq (n := p) (a := o0 + 4294967296 * o1) (b := o2 + 4294967296 * o3) (c := o4 + 4294967296 * o5) (d := o6 + 4294967296 * o7) (by omega) (by omega) (by omega) (by omega) c2]
      simp only [go_sem, ↓reduceIte, Nat.reduceLT, Nat.reduceLeDiff, Nat.reduceAdd, Nat.reduceSub, Nat.reduceMul, Nat.reduceEqDiff, Nat.reduceBEq, Nat.reduceMod, Nat.reduceDiv, Int.reduceToNat, reduceCtorEq, Int.reduceLT, Int.reduceLE, Int.reduceGT, Int.reduceGE, Int.reduceAdd, Int.reduceSub, Int.reduceMul, Int.reduceNeg, Int.reduceEq, Int.reduceNe, Int.reduceBNe, Int.reduceBEq, Int.reduceDiv, ex_round]
      refine finTup ?_
      show resOf _ _ [.cell 4 25, .tmp 5] = _
      simp only [go_sem, ↓reduceIte, Nat.reduceLT, Nat.reduceLeDiff, Nat.reduceAdd, Nat.reduceSub, Nat.reduceMul, Nat.reduceEqDiff, Nat.reduceBEq, Nat.reduceMod, Nat.reduceDiv, Int.reduceToNat, reduceCtorEq, Int.reduceLT, Int.reduceLE, Int.reduceGT, Int.reduceGE, Int.reduceAdd, Int.reduceSub, Int.reduceMul, Int.reduceNeg, Int.reduceEq, Int.reduceNe, Int.reduceBNe, Int.reduceBEq, Int.reduceDiv]
      try rfl
end Go.Proofs.Ytpepfhbfooeoeaa.VA
end
section
namespace Go.Proofs.Ytpepfhbfooeoeaa.VA
set_option maxRecDepth 10000
set_option maxHeartbeats 8000000

theorem lim_dg (n i : Nat) : lim n i = ((dg 18446744073709551616 n i : Nat) : Int) := by
  unfold lim dg
  rw [show (18446744073709551616 : Nat) = 2 ^ 64 from rfl, ← Nat.pow_mul]
theorem u_dg (n : Nat) : u n = .agg [.int .u64 ((dg 18446744073709551616 n 0 : Nat) : Int), .int .u64 ((dg 18446744073709551616 n 1 : Nat) : Int), .int .u64 ((dg 18446744073709551616 n 2 : Nat) : Int), .int .u64 ((dg 18446744073709551616 n 3 : Nat) : Int)] := by
  unfold u
  rw [lim_dg, lim_dg, lim_dg, lim_dg]
theorem dg_get (B n i : Nat) (hi : i < 4) : [AV.int .u64 ((dg B n 0 : Nat) : Int), .int .u64 ((dg B n 1 : Nat) : Int), .int .u64 ((dg B n 2 : Nat) : Int), .int .u64 ((dg B n 3 : Nat) : Int)][i]? = some (AV.int .u64 ((dg B n i : Nat) : Int)) := by
  have : i = 0 ∨ i = 1 ∨ i = 2 ∨ i = 3 := by omega
  rcases this with rfl | rfl | rfl | rfl <;> rfl
theorem adS0 (x y : Nat) : adS x y 0 = (((x + y) % 18446744073709551616 : Nat) : Int) := by unfold adS; omega
theorem adC0 (x y : Nat) : adC x y 0 = (((x + y) / 18446744073709551616 : Nat) : Int) := by unfold adC; omega
theorem mul_full {x y : Nat} (hx : x < 18446744073709551616) (hy : y < 18446744073709551616) : x * y ≤ 340282366920938463426481119284349108225 := by
  have : x * y ≤ 18446744073709551615 * 18446744073709551615 := Nat.mul_le_mul (by omega) (by omega)
  omega
/-- One step: the sum and what is carried. -/
theorem limb_step {p o c : Nat} (hp : p ≤ 340282366920938463426481119284349108225) (ho : o < 18446744073709551616) (hc : c < 18446744073709551616) :
    p / 18446744073709551616 + (p % 18446744073709551616 + o) / 18446744073709551616 < 18446744073709551616 ∧
    p / 18446744073709551616 + (p % 18446744073709551616 + o) / 18446744073709551616 + ((p % 18446744073709551616 + o) % 18446744073709551616 + c) / 18446744073709551616 < 18446744073709551616 ∧
    ((p % 18446744073709551616 + o) % 18446744073709551616 + c) % 18446744073709551616 + 18446744073709551616 * (p / 18446744073709551616 + (p % 18446744073709551616 + o) / 18446744073709551616 + ((p % 18446744073709551616 + o) % 18446744073709551616 + c) / 18446744073709551616) = o + p + c := by
  refine ⟨by omega, by omega, by omega⟩

theorem eightL {α : Type} {s : List α} (h : s.length = 2 * 4) : ∃ a b c d e f g i, s = [a, b, c, d, e, f, g, i] := by
  match s, h with
  | [a, b, c, d, e, f, g, i], _ => exact ⟨a, b, c, d, e, f, g, i, rfl⟩
theorem or_nat {a b : Nat} (ha : a < 18446744073709551616) (hb : b < 18446744073709551616) : IntKind.u64.wrap ((BitVec.ofInt IntKind.u64.bits (a : Int) ||| BitVec.ofInt IntKind.u64.bits (b : Int)).toNat : Int) = ((a ||| b : Nat) : Int) ∧ (a ||| b) < 18446744073709551616 := by
  have e : IntKind.u64.bits = 64 := rfl
  have h : (a ||| b) < 2 ^ 64 := Nat.or_lt_two_pow ha hb
  rw [e, ofInt_nat, ofInt_nat, BitVec.toNat_or, BitVec.toNat_ofNat, BitVec.toNat_ofNat, Nat.mod_eq_of_lt (by omega), Nat.mod_eq_of_lt (by omega)]
  exact ⟨wu64 (by omega) (by omega), h⟩
theorem or_ne {a b c d : Nat} : ((((((a ||| b) ||| c) ||| d : Nat) : Int) != 0) = true → 0 < a ∨ 0 < b ∨ 0 < c ∨ 0 < d) ∧ ((((((a ||| b) ||| c) ||| d : Nat) : Int) != 0) = false → a = 0 ∧ b = 0 ∧ c = 0 ∧ d = 0) := by
  simp only [bne_iff_ne, ne_eq, bne_eq_false_iff_eq, Int.natCast_eq_zero, Nat.or_eq_zero_iff]
  constructor
  · intro h; omega
  · intro h; omega
theorem c_u256_Mul (n m : Nat) (hn : n < U) (hm : m < U) : Contract Try.prog 133 [u n, u m] (.tup [u (if n * m < U then n * m else 0), .int .i64 (if n * m < U then 0 else 8)]) := by
  have hU : U = 18446744073709551616 ^ 4 := by decide
  refine contract_of (C := cf 88 [2, 3, 4, 5, 6, 7, 8, 9, 10, 11, 12, 13, 14, 15, 16, 17, 18, 22, 23, 24, 25, 77] (fun _ => [])) (cf_ok _ _ _) (fn := Try.f133) Try.func133 (by kernel_rfl) rfl (by kernel_rfl) (by simp [cf]) (plain2 (u_plain n) (u_plain m)) (by decide) (cellsOk (by kernel_rfl)) ?_
  have hu1 := u_dg n
  have hu2 := u_dg m
  simp only [go_sem, ↓reduceIte, Nat.reduceLT, Nat.reduceLeDiff, Nat.reduceAdd, Nat.reduceSub, Nat.reduceMul, Nat.reduceEqDiff, Nat.reduceBEq, Nat.reduceMod, Nat.reduceDiv, Int.reduceToNat, reduceCtorEq, Int.reduceLT, Int.reduceLE, Int.reduceGT, Int.reduceGE, Int.reduceAdd, Int.reduceSub, Int.reduceMul, Int.reduceNeg, Int.reduceEq, Int.reduceNe, Int.reduceBNe, Int.reduceBEq, Int.reduceDiv, hu1, hu2]
  refine ex_iter [3, 4, 6, 16, 17] (fun q : Nat × List Nat => ⟨[(3, .var 3 0), (4, .var 4 0), (6, .var 6 0), (16, .agg [.int .u64 ((dg 18446744073709551616 n 0 : Nat) : Int), .int .u64 ((dg 18446744073709551616 n 1 : Nat) : Int), .int .u64 ((dg 18446744073709551616 n 2 : Nat) : Int), .int .u64 ((dg 18446744073709551616 n 3 : Nat) : Int)]), (17, .int .i64 q.1)],
      [(3, [.int .u64 ((dg 18446744073709551616 m 0 : Nat) : Int), .int .u64 ((dg 18446744073709551616 m 1 : Nat) : Int), .int .u64 ((dg 18446744073709551616 m 2 : Nat) : Int), .int .u64 ((dg 18446744073709551616 m 3 : Nat) : Int)]), (4, [.int .u64 0, .int .u64 0, .int .u64 0, .int .u64 0]), (6, q.2.map un)], []⟩)
    (fun q => q.1 ≤ 4 ∧ Part 18446744073709551616 4 n m q.1 q.2 (n % 18446744073709551616 ^ q.1 * m)) (fun q => 4 - q.1) (0, List.replicate 8 0) ?_ ?_ ?_
  · simp only [ASt.keep, consIf, keepL, keepV, AV.isBot, List.contains_cons, List.contains_nil, Nat.reduceBEq, Bool.or_false, Bool.false_or, Bool.or_true, Bool.true_or, beq_self_eq_true, Bool.false_eq_true, ↓reduceIte, if_false, if_true]
    rfl
  · exact ⟨Nat.zero_le _, ⟨rfl, fun x hx => by rw [List.eq_of_mem_replicate hx]; decide, by rw [val_zero]; simp [Nat.mod_one], fun j _ hj => by rw [List.getElem?_replicate]; exact if_pos hj⟩⟩
  · rintro r ⟨i, out⟩ hinv next
    obtain ⟨hi, hp⟩ : i ≤ 4 ∧ Part 18446744073709551616 4 n m i out (n % 18446744073709551616 ^ i * m) := hinv
    simp only [go_sem, ↓reduceIte, Nat.reduceLT, Nat.reduceLeDiff, Nat.reduceAdd, Nat.reduceSub, Nat.reduceMul, Nat.reduceEqDiff, Nat.reduceBEq, Nat.reduceMod, Nat.reduceDiv, Int.reduceToNat, reduceCtorEq, Int.reduceLT, Int.reduceLE, Int.reduceGT, Int.reduceGE, Int.reduceAdd, Int.reduceSub, Int.reduceMul, Int.reduceNeg, Int.reduceEq, Int.reduceNe, Int.reduceBNe, Int.reduceBEq, Int.reduceDiv]
    refine ex_br (fun h => ?_) (fun h => ?_)
    · have hlt : i < 4 := by simp at h; omega
      have gx := dg_get 18446744073709551616 n i hlt
      simp only [go_sem, ↓reduceIte, Nat.reduceLT, Nat.reduceLeDiff, Nat.reduceAdd, Nat.reduceSub, Nat.reduceMul, Nat.reduceEqDiff, Nat.reduceBEq, Nat.reduceMod, Nat.reduceDiv, Int.reduceToNat, reduceCtorEq, Int.reduceLT, Int.reduceLE, Int.reduceGT, Int.reduceGE, Int.reduceAdd, Int.reduceSub, Int.reduceMul, Int.reduceNeg, Int.reduceEq, Int.reduceNe, Int.reduceBNe, Int.reduceBEq, Int.reduceDiv, Int.toNat_natCast, gx]
      repeat with_reducible refine And.intro (by first | omega | (simp only [List.length_cons, List.length_append, List.length_nil, List.length_map, List.length_take, List.length_drop, List.length_set]; omega)) ?_
      refine ex_br (fun hx0 => ?_) (fun hx0 => ?_)
      · have hx0 : dg 18446744073709551616 n i = 0 := by simp at hx0; omega
        simp only [go_sem, ↓reduceIte, Nat.reduceLT, Nat.reduceLeDiff, Nat.reduceAdd, Nat.reduceSub, Nat.reduceMul, Nat.reduceEqDiff, Nat.reduceBEq, Nat.reduceMod, Nat.reduceDiv, Int.reduceToNat, reduceCtorEq, Int.reduceLT, Int.reduceLE, Int.reduceGT, Int.reduceGE, Int.reduceAdd, Int.reduceSub, Int.reduceMul, Int.reduceNeg, Int.reduceEq, Int.reduceNe, Int.reduceBNe, Int.reduceBEq, Int.reduceDiv]
        refine next (i + 1, out) _ ⟨by simp only; omega, ?_⟩ (by simp only; omega) ?_
        · refine ⟨hp.len, hp.lt, ?_, fun j hj hj2 => hp.zero j (by simp only at hj; omega) hj2⟩
          simp only
          rw [hp.sum, dg_step, hx0, Nat.zero_mul, Nat.add_zero]
        · simp only
          rw [← wi64_nat i (by omega)]
          simp only [ASt.keep, consIf, keepL, keepV, AV.isBot, List.contains_cons, List.contains_nil, Nat.reduceBEq, Bool.or_false, Bool.false_or, Bool.or_true, Bool.true_or, beq_self_eq_true, Bool.false_eq_true, ↓reduceIte, if_false, if_true]
      · simp only [go_sem, ↓reduceIte, Nat.reduceLT, Nat.reduceLeDiff, Nat.reduceAdd, Nat.reduceSub, Nat.reduceMul, Nat.reduceEqDiff, Nat.reduceBEq, Nat.reduceMod, Nat.reduceDiv, Int.reduceToNat, reduceCtorEq, Int.reduceLT, Int.reduceLE, Int.reduceGT, Int.reduceGE, Int.reduceAdd, Int.reduceSub, Int.reduceMul, Int.reduceNeg, Int.reduceEq, Int.reduceNe, Int.reduceBNe, Int.reduceBEq, Int.reduceDiv]
        refine ex_iter [3, 4, 6, 7, 8, 9, 16, 17, 23, 24] (fun q : Nat × Nat × List Nat => ⟨[(3, .var 3 0), (4, .var 4 0), (6, .var 6 0), (7, .int .i64 i), (8, .int .u64 ((dg 18446744073709551616 n i : Nat) : Int)), (9, .int .u64 q.2.1), (16, .agg [.int .u64 ((dg 18446744073709551616 n 0 : Nat) : Int), .int .u64 ((dg 18446744073709551616 n 1 : Nat) : Int), .int .u64 ((dg 18446744073709551616 n 2 : Nat) : Int), .int .u64 ((dg 18446744073709551616 n 3 : Nat) : Int)]), (17, .int .i64 i), (23, .agg [.int .u64 ((dg 18446744073709551616 m 0 : Nat) : Int), .int .u64 ((dg 18446744073709551616 m 1 : Nat) : Int), .int .u64 ((dg 18446744073709551616 m 2 : Nat) : Int), .int .u64 ((dg 18446744073709551616 m 3 : Nat) : Int)]), (24, .int .i64 q.1)],
            [(3, [.int .u64 ((dg 18446744073709551616 m 0 : Nat) : Int), .int .u64 ((dg 18446744073709551616 m 1 : Nat) : Int), .int .u64 ((dg 18446744073709551616 m 2 : Nat) : Int), .int .u64 ((dg 18446744073709551616 m 3 : Nat) : Int)]), (4, [.int .u64 0, .int .u64 0, .int .u64 0, .int .u64 0]), (6, q.2.2.map un)], []⟩)
          (fun q => q.1 ≤ 4 ∧ q.2.1 < 18446744073709551616 ∧ ∃ V, Part 18446744073709551616 4 n m i q.2.2 V ∧ V + q.2.1 * 18446744073709551616 ^ (i + q.1) = n % 18446744073709551616 ^ i * m + dg 18446744073709551616 n i * (m % 18446744073709551616 ^ q.1) * 18446744073709551616 ^ i) (fun q => 4 - q.1) (0, 0, out) ?_ ?_ ?_
        · simp only [ASt.keep, consIf, keepL, keepV, AV.isBot, List.contains_cons, List.contains_nil, Nat.reduceBEq, Bool.or_false, Bool.false_or, Bool.or_true, Bool.true_or, beq_self_eq_true, Bool.false_eq_true, ↓reduceIte, if_false, if_true]
          rfl
        · exact ⟨Nat.zero_le _, Nat.succ_pos _, _, hp, by simp [Nat.mod_one]⟩
        · rintro r ⟨k, c, out⟩ hinv next2
          obtain ⟨hk, hc, V, hp, hv⟩ : k ≤ 4 ∧ c < 18446744073709551616 ∧ ∃ V, Part 18446744073709551616 4 n m i out V ∧ V + c * 18446744073709551616 ^ (i + k) = n % 18446744073709551616 ^ i * m + dg 18446744073709551616 n i * (m % 18446744073709551616 ^ k) * 18446744073709551616 ^ i := hinv
          simp only [go_sem, ↓reduceIte, Nat.reduceLT, Nat.reduceLeDiff, Nat.reduceAdd, Nat.reduceSub, Nat.reduceMul, Nat.reduceEqDiff, Nat.reduceBEq, Nat.reduceMod, Nat.reduceDiv, Int.reduceToNat, reduceCtorEq, Int.reduceLT, Int.reduceLE, Int.reduceGT, Int.reduceGE, Int.reduceAdd, Int.reduceSub, Int.reduceMul, Int.reduceNeg, Int.reduceEq, Int.reduceNe, Int.reduceBNe, Int.reduceBEq, Int.reduceDiv]
          refine ex_br (fun h2 => ?_) (fun h2 => ?_)
          · have hlt2 : k < 4 := by simp at h2; omega
            have gy := dg_get 18446744073709551616 m k hlt2
            obtain ⟨o, eo⟩ : ∃ o, out[i + k]? = some o := ⟨_, List.getElem?_eq_getElem (by rw [hp.len]; omega)⟩
            have ho := hp.lt o (List.mem_of_getElem? eo)
            have ik : IntKind.i64.wrap ((i : Int) + k) = ((i + k : Nat) : Int) := by rw [wi64 (by omega) (by omega)]; rfl
            have hx := dg_lt 18446744073709551616 n i (by decide)
            have hy := dg_lt 18446744073709551616 m k (by decide)
            have hxy := mul_full hx hy
            obtain ⟨l1, l2, l3⟩ := limb_step hxy ho hc
            simp only [go_sem, ↓reduceIte, Nat.reduceLT, Nat.reduceLeDiff, Nat.reduceAdd, Nat.reduceSub, Nat.reduceMul, Nat.reduceEqDiff, Nat.reduceBEq, Nat.reduceMod, Nat.reduceDiv, Int.reduceToNat, reduceCtorEq, Int.reduceLT, Int.reduceLE, Int.reduceGT, Int.reduceGE, Int.reduceAdd, Int.reduceSub, Int.reduceMul, Int.reduceNeg, Int.reduceEq, Int.reduceNe, Int.reduceBNe, Int.reduceBEq, Int.reduceDiv, ik, Int.toNat_natCast, List.getElem?_map, eo, gy]
            repeat with_reducible refine And.intro (by first | omega | (simp only [List.length_cons, List.length_append, List.length_nil, List.length_map, List.length_take, List.length_drop, List.length_set]; omega)) ?_
            have hcm := c_Mul64 _ _ hx hy
            obtain ⟨p, hp'⟩ : ∃ p, p = dg 18446744073709551616 n i * dg 18446744073709551616 m k := ⟨_, rfl⟩
            rw [← hp'] at hxy l1 l2 l3 hcm
            have a1 := addw l1
            have a2 := addw l2
            have s1 := adS0 (p % 18446744073709551616) o
            have k1 := adC0 (p % 18446744073709551616) o
            have s2 := adS0 ((p % 18446744073709551616 + o) % 18446744073709551616) c
            have k2 := adC0 ((p % 18446744073709551616 + o) % 18446744073709551616) c
            have a4 := put_set un out (i + k) (((p % 18446744073709551616 + o) % 18446744073709551616 + c) % 18446744073709551616) (by rw [hp.len]; omega)
            have a5 : i + k + 1 ≤ (out.map un).length := by rw [List.length_map, hp.len]; omega
            refine ex_call hcm ?_
            simp only [go_sem, ↓reduceIte, Nat.reduceLT, Nat.reduceLeDiff, Nat.reduceAdd, Nat.reduceSub, Nat.reduceMul, Nat.reduceEqDiff, Nat.reduceBEq, Nat.reduceMod, Nat.reduceDiv, Int.reduceToNat, reduceCtorEq, Int.reduceLT, Int.reduceLE, Int.reduceGT, Int.reduceGE, Int.reduceAdd, Int.reduceSub, Int.reduceMul, Int.reduceNeg, Int.reduceEq, Int.reduceNe, Int.reduceBNe, Int.reduceBEq, Int.reduceDiv, ik, Int.toNat_natCast, List.getElem?_map, eo, un]
            repeat with_reducible refine And.intro (by first | omega | (simp only [List.length_cons, List.length_append, List.length_nil, List.length_map, List.length_take, List.length_drop, List.length_set]; omega)) ?_
            refine ex_extern (x_Add64 _ _ _ (by omega) (by omega) (by omega)) ?_
            simp only [go_sem, ↓reduceIte, Nat.reduceLT, Nat.reduceLeDiff, Nat.reduceAdd, Nat.reduceSub, Nat.reduceMul, Nat.reduceEqDiff, Nat.reduceBEq, Nat.reduceMod, Nat.reduceDiv, Int.reduceToNat, reduceCtorEq, Int.reduceLT, Int.reduceLE, Int.reduceGT, Int.reduceGE, Int.reduceAdd, Int.reduceSub, Int.reduceMul, Int.reduceNeg, Int.reduceEq, Int.reduceNe, Int.reduceBNe, Int.reduceBEq, Int.reduceDiv, s1, k1, a1, a2, ik]
            refine ex_extern (x_Add64 _ _ _ (by omega) (by omega) (by omega)) ?_
            simp only [go_sem, ↓reduceIte, Nat.reduceLT, Nat.reduceLeDiff, Nat.reduceAdd, Nat.reduceSub, Nat.reduceMul, Nat.reduceEqDiff, Nat.reduceBEq, Nat.reduceMod, Nat.reduceDiv, Int.reduceToNat, reduceCtorEq, Int.reduceLT, Int.reduceLE, Int.reduceGT, Int.reduceGE, Int.reduceAdd, Int.reduceSub, Int.reduceMul, Int.reduceNeg, Int.reduceEq, Int.reduceNe, Int.reduceBNe, Int.reduceBEq, Int.reduceDiv, s2, k2, a1, a2, ik, Int.toNat_natCast]
            repeat with_reducible refine And.intro (by first | omega | (simp only [List.length_cons, List.length_append, List.length_nil, List.length_map, List.length_take, List.length_drop, List.length_set]; omega)) ?_
            simp only [go_sem, ↓reduceIte, Nat.reduceLT, Nat.reduceLeDiff, Nat.reduceAdd, Nat.reduceSub, Nat.reduceMul, Nat.reduceEqDiff, Nat.reduceBEq, Nat.reduceMod, Nat.reduceDiv, Int.reduceToNat, reduceCtorEq, Int.reduceLT, Int.reduceLE, Int.reduceGT, Int.reduceGE, Int.reduceAdd, Int.reduceSub, Int.reduceMul, Int.reduceNeg, Int.reduceEq, Int.reduceNe, Int.reduceBNe, Int.reduceBEq, Int.reduceDiv, decide_eq_true_eq, a5, a2]
            obtain ⟨p1, p2⟩ := hp.set (j := i + k) (v := ((p % 18446744073709551616 + o) % 18446744073709551616 + c) % 18446744073709551616) (by omega) (Nat.mod_lt _ (by decide)) eo
            refine next2 (k + 1, _, out.set (i + k) (((p % 18446744073709551616 + o) % 18446744073709551616 + c) % 18446744073709551616)) _ ⟨by simp only; omega, l2, _, p1, step_val (by decide) hv ?_⟩ (by simp only; omega) ?_
            · refine mac (s := ((p % 18446744073709551616 + o) % 18446744073709551616 + c) % 18446744073709551616) (out := o) ?_ p2
              rw [← hp']
              exact l3
            · simp only
              rw [← wi64_nat k (by omega), ← a4]
              simp only [ASt.keep, consIf, keepL, keepV, AV.isBot, List.contains_cons, List.contains_nil, Nat.reduceBEq, Bool.or_false, Bool.false_or, Bool.or_true, Bool.true_or, beq_self_eq_true, Bool.false_eq_true, ↓reduceIte, if_false, if_true]
              rfl
          · have hge : k = 4 := by simp at h2; omega
            subst hge
            have ik : IntKind.i64.wrap ((i : Int) + 4) = ((i + 4 : Nat) : Int) := by rw [wi64 (by omega) (by omega)]; rfl
            have a4 := put_set un out (i + 4) c (by rw [hp.len]; omega)
            have a5 : i + 4 + 1 ≤ (out.map un).length := by rw [List.length_map, hp.len]; omega
            obtain ⟨p1, p2⟩ := hp.set9 (c := c) (by omega) hc
            have p3 := row_val (by rw [← hU]; exact hm) hv p2
            simp only [go_sem, ↓reduceIte, Nat.reduceLT, Nat.reduceLeDiff, Nat.reduceAdd, Nat.reduceSub, Nat.reduceMul, Nat.reduceEqDiff, Nat.reduceBEq, Nat.reduceMod, Nat.reduceDiv, Int.reduceToNat, reduceCtorEq, Int.reduceLT, Int.reduceLE, Int.reduceGT, Int.reduceGE, Int.reduceAdd, Int.reduceSub, Int.reduceMul, Int.reduceNeg, Int.reduceEq, Int.reduceNe, Int.reduceBNe, Int.reduceBEq, Int.reduceDiv, ik, Int.toNat_natCast]
            repeat with_reducible refine And.intro (by first | omega | (simp only [List.length_cons, List.length_append, List.length_nil, List.length_map, List.length_take, List.length_drop, List.length_set]; omega)) ?_
            simp only [go_sem, ↓reduceIte, Nat.reduceLT, Nat.reduceLeDiff, Nat.reduceAdd, Nat.reduceSub, Nat.reduceMul, Nat.reduceEqDiff, Nat.reduceBEq, Nat.reduceMod, Nat.reduceDiv, Int.reduceToNat, reduceCtorEq, Int.reduceLT, Int.reduceLE, Int.reduceGT, Int.reduceGE, Int.reduceAdd, Int.reduceSub, Int.reduceMul, Int.reduceNeg, Int.reduceEq, Int.reduceNe, Int.reduceBNe, Int.reduceBEq, Int.reduceDiv, decide_eq_true_eq, a5]
            refine next (i + 1, out.set (i + 4) c) _ ⟨by simp only; omega, ?_⟩ (by simp only; omega) ?_
            · rw [← p3]; exact p1
            · simp only
              rw [← wi64_nat i (by omega), ← a4]
              simp only [ASt.keep, consIf, keepL, keepV, AV.isBot, List.contains_cons, List.contains_nil, Nat.reduceBEq, Bool.or_false, Bool.false_or, Bool.or_true, Bool.true_or, beq_self_eq_true, Bool.false_eq_true, ↓reduceIte, if_false, if_true]
              rfl
    · have hge : i = 4 := by simp at h; omega
      subst hge
      clear next
      have hs := hp.sum
      have hl := hp.len
      have hb := hp.lt
      rw [Nat.mod_eq_of_lt (by rw [← hU]; exact hn)] at hs
      obtain ⟨o0, o1, o2, o3, o4, o5, o6, o7, rfl⟩ := eightL hl
      simp only [List.mem_cons, List.not_mem_nil, or_false, forall_eq_or_imp, forall_eq] at hb
      obtain ⟨b0, b1, b2, b3, b4, b5, b6, b7⟩ := hb
      clear hp
      have hz4 : u 0 = _ := u_eq (n := 0) (a := 0) (b := 0) (c := 0) (d := 0) (by decide) (by decide) (by decide) (by decide) rfl
      generalize n * m = p at hs
      have q1 := or_nat b4 b5
      have q2 := or_nat q1.2 b6
      have q3 := or_nat q2.2 b7
      have hor := or_ne (a := o4) (b := o5) (c := o6) (d := o7)
      simp only [cf, ex_seq, ex_block, ex_region, ex_ops_nil, ex_ops_cons, ex_ok, ex_need, ex_split_t, ex_split_f, ex_cond, ex_br_t, ex_br_f, ex_skip, ex_label, ex_scope, ex_exit, ex_ret, ex_keep, ex_inBlock_n, ex_inBlock_same, ex_inBlock_e, ex_inBlock_r, ex_code_e, ex_code_r, ex_rounds_e, ex_rounds_r, ex_ord_fin, ex_ord_quiet, ex_ord_one, ex_ord_unlock, ex_ord_lone, ex_ol, ex_oq_t, ex_oq_f, ex_nil, quietOp, loneOp, eltAddr, quietLoad, quietCallee, convQ, u8, moveR, moveTup, AV.isOwn, asU8, stepR, opR, ASt.rd, AV.seen, look, AV.const, AV.constC, AV.constG, AV.constCs, AV.constA, AV.nilOf, ASt.wr, Cfg.may, Cfg.round, roundQ, AV.dropR, AV.dropA, ASt.wrTo, R.chk, ASt.put, ASt.putOwn, ins, strike, consIf, keepL, keepV, AV.isBot, startSt, argsAt, allocR, ASt.newVar, AV.leansVar, AV.leans, AV.leansComp, assignR, ASt.take, ASt.takeO, ASt.at, cellAt, AV.compAt, ASt.drop, ASt.setCell, ASt.setCellO, ASt.dropComp, ASt.turn, binR, ASt.wrO, binInt, binAgg, isBoolK, isIntK, isSliceK, isFuncK, isInts, AV.eqInts, unVal, buildGo, partAt, partIn, placeOf, buildEnd, elemIn, elemsGo, elemsEnd, bsR, argOwnRef, argOwn, argImm, argsGo, callEnd, ASt.wrResTo, ASt.wrRes, pickR, boxR, loadOne, loadVar, wrImm, aggPart, AV.isAggV, loadElem, loadElt, loadR, storeOwn, AV.redir, redir, storeAl, storeRef, storeCells, storeVar, storePart, storeRow, storeElt, storeR, isU8, convBytes, convCont, convR, makeR, optI, cutSl, cutImm, cutStr, delV, ASt.freeVar, mkFnR, capR, capV, cutArr, cutR, addrR, structF, fieldR, idxSl, idxAddrR, idxR, extrOne, extrR, lenCont, lenR, appSrc, appRef, appTo, appR, maxR, fnOf, appKind, callFn, callLen, callApp, callMax, callR, grdO, grdT, TI.zeroVal, TK.isAgg, TK.known, Loc.plain, ASt.keep, ASt.imm, ASt.immRef, AV.isImm, AV.flat, AV.frz, AV.frz0, AV.mark, AV.elemsOf, AV.elemsO, ASt.cont, markFrom, putAt, resOf, resTup, resAll, resCons, resOne, resVar, resCells, resTmp, decide_true, decide_false, Bool.and_true, Bool.true_and, Bool.and_false, Bool.false_and, Bool.and_self, Bool.not_true, Bool.not_false, bq_t, bq_f, Bool.false_eq_true, Bool.true_eq_false, ↓reduceIte, Nat.reduceLT, Nat.reduceLeDiff, Nat.reduceAdd, Nat.reduceSub, Nat.reduceMul, Nat.reduceEqDiff, Nat.reduceBEq, Nat.lt_irrefl, Nat.zero_add, Nat.add_zero, Nat.mul_one, Nat.zero_mul, Nat.mul_zero, Nat.reduceMod, Nat.reduceDiv, Nat.zero_le, Nat.le_refl, Nat.beq, Int.reduceToNat, List.length_cons, List.length_nil, Option.isNone_none, Option.isNone_some, Option.bind_some, Option.bind_none, Option.map_some, Option.map_none, List.getElem?_cons_zero, List.getElem?_cons_succ, List.getElem?_nil, List.take_succ_cons, List.take_zero, List.take_nil, List.drop_succ_cons, List.drop_zero, List.drop_nil, List.map_cons, List.map_nil, List.cons_append, List.nil_append, List.append_nil, List.set_cons_zero, List.set_cons_succ, List.headD_cons, List.headD_nil, List.tail_cons, List.tail_nil, List.contains_cons, List.contains_nil, Bool.or_false, Bool.false_or, Bool.or_true, Bool.true_or, BEq.rfl, beq_self_eq_true, Nat.reduceBEq, List.replicate_zero, List.replicate_succ, List.isEmpty_nil, List.size_toArray, Array.isEmpty, List.reverse_nil, List.all_cons, List.all_nil, eq_self, true_and, and_true, false_and, and_false, and_self, not_true_eq_false, not_false_eq_true, reduceCtorEq, Loc.tmp.injEq, Loc.cell.injEq, Loc.comp.injEq, or_true, true_or, or_false, false_or, exists_const, Int.reduceLT, Int.reduceLE, Int.reduceGT, Int.reduceGE, Option.isSome_some, Option.isSome_none, Int.reduceAdd, Int.reduceSub, Int.reduceMul, Int.reduceNeg, Int.reduceEq, Int.reduceNe, Int.reduceBNe, Int.reduceBEq, ne_eq, Int.toNat_zero, Int.reduceDiv, forall_const, Nat.not_lt_zero, Nat.lt_add_one, ti1, ti2, ti3, ti4, ti5, ti6, ti7, ti8, ti9, ti10, ti11, ti12, ti13, ti14, ti21, ti22, ti23, ti24, ti25, ti26, ti27, ti28, ti29, ti30, ti31, ti32, ti33, ti34, ti35, ti37, ti38, ti39, ti40, ti41, ti42, ti43, ti45, ti46, ti47, ti48, ti49, ti50, ti51, ti52, ti53, ti55, ti56, ti58, ti59, ti60, ti61, ti62, ti64, ti66, ti67, ti69, ti70, ti71, ti72, ti73, ti74, ti75, ti76, ti77, ti78, ti79, ti81, ti82, ti83, ti85, ti86, ti87, ti88, ti89, ti90, ti92, ti93, ti94, ti95, ti96, ti98, ti100, ti101, ti102, ti103, ti104, ti105, ti107, ti108, ti109, ti110, ti111, ti112, ti113, ti114, ti115, ti116, ti117, ti118, ti119, ti120, ti121, ti122, ti123, ti125, ti127, ti128, ti129, ti130, ti131, ti132, ti133, ti134, ti135, ti136, ti137, ti138, ti139, ti141, ti142, ti143, ti144, ti145, ti146, ti147, ti148, ti150, ti151, ti152, ti153, ti154, ti155, ti156, ti157, ti158, ti159, ti160, ti161, ti162, ti163, ti164, ti165, ti166, ti167, ti168, ti169, ti170, ti171, ti172, ti173, ti174, ti175, ti176, ti177, ti178, ti184, ti185, ti186, ti187, ti188, ti190, ti191, un]
      repeat with_reducible refine And.intro (by first | omega | (simp only [List.length_cons, List.length_append, List.length_nil, List.length_map, List.length_take, List.length_drop, List.length_set]; omega)) ?_
      simp only [cf, ex_seq, ex_block, ex_region, ex_ops_nil, ex_ops_cons, ex_ok, ex_need, ex_split_t, ex_split_f, ex_cond, ex_br_t, ex_br_f, ex_skip, ex_label, ex_scope, ex_exit, ex_ret, ex_keep, ex_inBlock_n, ex_inBlock_same, ex_inBlock_e, ex_inBlock_r, ex_code_e, ex_code_r, ex_rounds_e, ex_rounds_r, ex_ord_fin, ex_ord_quiet, ex_ord_one, ex_ord_unlock, ex_ord_lone, ex_ol, ex_oq_t, ex_oq_f, ex_nil, quietOp, loneOp, eltAddr, quietLoad, quietCallee, convQ, u8, moveR, moveTup, AV.isOwn, asU8, stepR, opR, ASt.rd, AV.seen, look, AV.const, AV.constC, AV.constG, AV.constCs, AV.constA, AV.nilOf, ASt.wr, Cfg.may, Cfg.round, roundQ, AV.dropR, AV.dropA, ASt.wrTo, R.chk, ASt.put, ASt.putOwn, ins, strike, consIf, keepL, keepV, AV.isBot, startSt, argsAt, allocR, ASt.newVar, AV.leansVar, AV.leans, AV.leansComp, assignR, ASt.take, ASt.takeO, ASt.at, cellAt, AV.compAt, ASt.drop, ASt.setCell, ASt.setCellO, ASt.dropComp, ASt.turn, binR, ASt.wrO, binInt, binAgg, isBoolK, isIntK, isSliceK, isFuncK, isInts, AV.eqInts, unVal, buildGo, partAt, partIn, placeOf, buildEnd, elemIn, elemsGo, elemsEnd, bsR, argOwnRef, argOwn, argImm, argsGo, callEnd, ASt.wrResTo, ASt.wrRes, pickR, boxR, loadOne, loadVar, wrImm, aggPart, AV.isAggV, loadElem, loadElt, loadR, storeOwn, AV.redir, redir, storeAl, storeRef, storeCells, storeVar, storePart, storeRow, storeElt, storeR, isU8, convBytes, convCont, convR, makeR, optI, cutSl, cutImm, cutStr, delV, ASt.freeVar, mkFnR, capR, capV, cutArr, cutR, addrR, structF, fieldR, idxSl, idxAddrR, idxR, extrOne, extrR, lenCont, lenR, appSrc, appRef, appTo, appR, maxR, fnOf, appKind, callFn, callLen, callApp, callMax, callR, grdO, grdT, TI.zeroVal, TK.isAgg, TK.known, Loc.plain, ASt.keep, ASt.imm, ASt.immRef, AV.isImm, AV.flat, AV.frz, AV.frz0, AV.mark, AV.elemsOf, AV.elemsO, ASt.cont, markFrom, putAt, resOf, resTup, resAll, resCons, resOne, resVar, resCells, resTmp, decide_true, decide_false, Bool.and_true, Bool.true_and, Bool.and_false, Bool.false_and, Bool.and_self, Bool.not_true, Bool.not_false, bq_t, bq_f, Bool.false_eq_true, Bool.true_eq_false, ↓reduceIte, Nat.reduceLT, Nat.reduceLeDiff, Nat.reduceAdd, Nat.reduceSub, Nat.reduceMul, Nat.reduceEqDiff, Nat.reduceBEq, Nat.lt_irrefl, Nat.zero_add, Nat.add_zero, Nat.mul_one, Nat.zero_mul, Nat.mul_zero, Nat.reduceMod, Nat.reduceDiv, Nat.zero_le, Nat.le_refl, Nat.beq, Int.reduceToNat, List.length_cons, List.length_nil, Option.isNone_none, Option.isNone_some, Option.bind_some, Option.bind_none, Option.map_some, Option.map_none, List.getElem?_cons_zero, List.getElem?_cons_succ, List.getElem?_nil, List.take_succ_cons, List.take_zero, List.take_nil, List.drop_succ_cons, List.drop_zero, List.drop_nil, List.map_cons, List.map_nil, List.cons_append, List.nil_append, List.append_nil, List.set_cons_zero, List.set_cons_succ, List.headD_cons, List.headD_nil, List.tail_cons, List.tail_nil, List.contains_cons, List.contains_nil, Bool.or_false, Bool.false_or, Bool.or_true, Bool.true_or, BEq.rfl, beq_self_eq_true, Nat.reduceBEq, List.replicate_zero, List.replicate_succ, List.isEmpty_nil, List.size_toArray, Array.isEmpty, List.reverse_nil, List.all_cons, List.all_nil, eq_self, true_and, and_true, false_and, and_false, and_self, not_true_eq_false, not_false_eq_true, reduceCtorEq, Loc.tmp.injEq, Loc.cell.injEq, Loc.comp.injEq, or_true, true_or, or_false, false_or, exists_const, Int.reduceLT, Int.reduceLE, Int.reduceGT, Int.reduceGE, Option.isSome_some, Option.isSome_none, Int.reduceAdd, Int.reduceSub, Int.reduceMul, Int.reduceNeg, Int.reduceEq, Int.reduceNe, Int.reduceBNe, Int.reduceBEq, ne_eq, Int.toNat_zero, Int.reduceDiv, forall_const, Nat.not_lt_zero, Nat.lt_add_one, ti1, ti2, ti3, ti4, ti5, ti6, ti7, ti8, ti9, ti10, ti11, ti12, ti13, ti14, ti21, ti22, ti23, ti24, ti25, ti26, ti27, ti28, ti29, ti30, ti31, ti32, ti33, ti34, ti35, ti37, ti38, ti39, ti40, ti41, ti42, ti43, ti45, ti46, ti47, ti48, ti49, ti50, ti51, ti52, ti53, ti55, ti56, ti58, ti59, ti60, ti61, ti62, ti64, ti66, ti67, ti69, ti70, ti71, ti72, ti73, ti74, ti75, ti76, ti77, ti78, ti79, ti81, ti82, ti83, ti85, ti86, ti87, ti88, ti89, ti90, ti92, ti93, ti94, ti95, ti96, ti98, ti100, ti101, ti102, ti103, ti104, ti105, ti107, ti108, ti109, ti110, ti111, ti112, ti113, ti114, ti115, ti116, ti117, ti118, ti119, ti120, ti121, ti122, ti123, ti125, ti127, ti128, ti129, ti130, ti131, ti132, ti133, ti134, ti135, ti136, ti137, ti138, ti139, ti141, ti142, ti143, ti144, ti145, ti146, ti147, ti148, ti150, ti151, ti152, ti153, ti154, ti155, ti156, ti157, ti158, ti159, ti160, ti161, ti162, ti163, ti164, ti165, ti166, ti167, ti168, ti169, ti170, ti171, ti172, ti173, ti174, ti175, ti176, ti177, ti178, ti184, ti185, ti186, ti187, ti188, ti190, ti191, q1.1, q2.1, q3.1]
      refine ex_br (fun h => ?_) (fun h => ?_)
      · have h := hor.1 h
        have hbig : ¬ p < U := by
          unfold U
          simp only [val, Nat.mul_zero, Nat.add_zero] at hs
          omega
        rw [if_neg hbig, if_neg hbig, hz4]
        simp only [go_sem, ↓reduceIte, Nat.reduceLT, Nat.reduceLeDiff, Nat.reduceAdd, Nat.reduceSub, Nat.reduceMul, Nat.reduceEqDiff, Nat.reduceBEq, Nat.reduceMod, Nat.reduceDiv, Int.reduceToNat, reduceCtorEq, Int.reduceLT, Int.reduceLE, Int.reduceGT, Int.reduceGE, Int.reduceAdd, Int.reduceSub, Int.reduceMul, Int.reduceNeg, Int.reduceEq, Int.reduceNe, Int.reduceBNe, Int.reduceBEq, Int.reduceDiv]
        refine finTup ?_
        show resOf _ _ [.cell 4 25, .tmp 5] = _
        simp only [go_sem, ↓reduceIte, Nat.reduceLT, Nat.reduceLeDiff, Nat.reduceAdd, Nat.reduceSub, Nat.reduceMul, Nat.reduceEqDiff, Nat.reduceBEq, Nat.reduceMod, Nat.reduceDiv, Int.reduceToNat, reduceCtorEq, Int.reduceLT, Int.reduceLE, Int.reduceGT, Int.reduceGE, Int.reduceAdd, Int.reduceSub, Int.reduceMul, Int.reduceNeg, Int.reduceEq, Int.reduceNe, Int.reduceBNe, Int.reduceBEq, Int.reduceDiv]
        try rfl
      · have h := hor.2 h
        have hsm : p < U ∧ p = o0 + 18446744073709551616 * o1 + 340282366920938463463374607431768211456 * o2 + 6277101735386680763835789423207666416102355444464034512896 * o3 := by
          simp only [val, Nat.mul_zero, Nat.add_zero] at hs
          unfold U
          constructor <;> omega
        rw [if_pos hsm.1, if_pos hsm.1, u_eq b0 b1 b2 b3 hsm.2]
        simp only [go_sem, ↓reduceIte, Nat.reduceLT, Nat.reduceLeDiff, Nat.reduceAdd, Nat.reduceSub, Nat.reduceMul, Nat.reduceEqDiff, Nat.reduceBEq, Nat.reduceMod, Nat.reduceDiv, Int.reduceToNat, reduceCtorEq, Int.reduceLT, Int.reduceLE, Int.reduceGT, Int.reduceGE, Int.reduceAdd, Int.reduceSub, Int.reduceMul, Int.reduceNeg, Int.reduceEq, Int.reduceNe, Int.reduceBNe, Int.reduceBEq, Int.reduceDiv]
        repeat with_reducible refine And.intro (by first | omega | (simp only [List.length_cons, List.length_append, List.length_nil, List.length_map, List.length_take, List.length_drop, List.length_set]; omega)) ?_
        refine finTup ?_
        show resOf _ _ [.cell 4 25, .tmp 5] = _
        simp only [go_sem, ↓reduceIte, Nat.reduceLT, Nat.reduceLeDiff, Nat.reduceAdd, Nat.reduceSub, Nat.reduceMul, Nat.reduceEqDiff, Nat.reduceBEq, Nat.reduceMod, Nat.reduceDiv, Int.reduceToNat, reduceCtorEq, Int.reduceLT, Int.reduceLE, Int.reduceGT, Int.reduceGE, Int.reduceAdd, Int.reduceSub, Int.reduceMul, Int.reduceNeg, Int.reduceEq, Int.reduceNe, Int.reduceBNe, Int.reduceBEq, Int.reduceDiv]
        try rfl
end Go.Proofs.Ytpepfhbfooeoeaa.VA
end
section
namespace Go.Proofs.Ytpepfhbfooeoeaa.VA
set_option maxRecDepth 10000

def markStep (m : Int) (b : UInt8) : Int := IntKind.u64.wrap (IntKind.u64.wrap ((BitVec.ofInt 64 m ^^^ BitVec.ofInt 64 (IntKind.u64.wrap (b.toNat : Int))).toNat) * 1099511628211)
def markFrom' (m : Int) (s : List UInt8) : Int := s.foldl markStep m
def markOf (s : List UInt8) : Int := markFrom' 14695981039346656037 s

theorem mark_take (m : Int) (s : List UInt8) (i : Nat) (b : UInt8) (h : s[i]? = some b) : markFrom' m (s.take (i + 1)) = markStep (markFrom' m (s.take i)) b := by
  unfold markFrom'
  rw [List.take_add_one, h, List.foldl_append]
  rfl

theorem c_mark_Mark (s : List UInt8) (hs : s.length ≤ 9223372036854775806) : Contract Try.prog 119 [.str s] (.int .u64 (markOf s)) := by
  refine contract_of (C := cf 19 [0, 2, 3, 4, 6, 7, 8] (fun _ => [])) (cf_ok _ _ _) (fn := Try.f119) Try.func119 (by kernel_rfl) rfl (by kernel_rfl) (by simp [cf]) (plain1 (.str s)) (by decide) (noCell (by kernel_rfl)) ?_
  simp only [go_sem, seval]
  refine ex_iter [0, 3, 6, 7] (fun i : Nat => ⟨[(0, .str s), (3, .int .u64 (markFrom' 14695981039346656037 (s.take i))), (6, .int .i64 s.length), (7, .int .i64 i)], [], []⟩) (fun i => i ≤ s.length) (fun i => s.length - i) 0 ?_ ?_ ?_
  · simp only [go_sem, seval]
    rfl
  · exact Nat.zero_le _
  · intro n i hi next
    simp only [go_sem, seval]
    refine ex_br (fun h => ?_) (fun h => ?_)
    · have hlt : i < s.length := by simpa using h
      obtain ⟨b, hb⟩ : ∃ b, s[i]? = some b := ⟨_, List.getElem?_eq_getElem hlt⟩
      simp only [go_sem, seval, Int.toNat_natCast, hb]
      refine ⟨⟨by omega, by omega⟩, ?_⟩
      refine next (i + 1) _ (by omega) (by omega) ?_
      rw [mark_take _ _ _ _ hb, ← wi64_nat i (by omega)]
      simp only [ASt.keep, consIf, keepL, keepV, AV.isBot, List.contains_cons, List.contains_nil, Nat.reduceBEq, Bool.or_false, Bool.false_or, Bool.or_true, Bool.true_or, beq_self_eq_true, Bool.false_eq_true, ↓reduceIte, if_false, if_true]
      rfl
    · have hge : i = s.length := by simp at h; omega
      subst hge
      simp only [go_sem, seval]
      refine finOne ?_ (fun _ e => by cases e)
      show resOf _ _ [.tmp 2] = _
      simp only [go_sem, seval, List.take_length]
      rfl

theorem c_ref4_Mark (s : List UInt8) (hs : s.length ≤ 9223372036854775806) : Contract Try.prog 99 [.str s] (.int .u64 (markOf s)) := by
  refine contract_of (C := cf 19 [0, 2, 3, 4, 8] (fun _ => [])) (cf_ok _ _ _) (fn := Try.f99) Try.func99 (by kernel_rfl) rfl (by kernel_rfl) (by simp [cf]) (plain1 (.str s)) (by decide) (noCell (by kernel_rfl)) ?_
  simp only [go_sem, seval]
  refine ex_iter [0, 3, 4] (fun i : Nat => ⟨[(0, .str s), (3, .int .u64 (markFrom' 14695981039346656037 (s.take i))), (4, .int .i64 i)], [], []⟩) (fun i => i ≤ s.length) (fun i => s.length - i) 0 ?_ ?_ ?_
  · simp only [ASt.keep, consIf, keepL, keepV, AV.isBot, List.contains_cons, List.contains_nil, Nat.reduceBEq, Bool.or_false, Bool.false_or, Bool.or_true, Bool.true_or, beq_self_eq_true, Bool.false_eq_true, ↓reduceIte, if_false, if_true]
    rfl
  · exact Nat.zero_le _
  · intro n i hi next
    simp only [go_sem, seval]
    refine ex_br (fun h => ?_) (fun h => ?_)
    · have hlt : i < s.length := by simpa using h
      obtain ⟨b, hb⟩ : ∃ b, s[i]? = some b := ⟨_, List.getElem?_eq_getElem hlt⟩
      simp only [go_sem, seval, Int.toNat_natCast, hb]
      refine ⟨⟨by omega, by omega⟩, ?_⟩
      refine next (i + 1) _ (by omega) (by omega) ?_
      rw [mark_take _ _ _ _ hb, ← wi64_nat i (by omega)]
      simp only [ASt.keep, consIf, keepL, keepV, AV.isBot, List.contains_cons, List.contains_nil, Nat.reduceBEq, Bool.or_false, Bool.false_or, Bool.or_true, Bool.true_or, beq_self_eq_true, Bool.false_eq_true, ↓reduceIte, if_false, if_true]
      rfl
    · have hge : i = s.length := by simp at h; omega
      subst hge
      simp only [go_sem, seval]
      refine finOne ?_ (fun _ e => by cases e)
      show resOf _ _ [.tmp 2] = _
      simp only [go_sem, seval, List.take_length]
      rfl

def takeStep (m : Int) (b : UInt8) : Int := IntKind.u64.wrap ((BitVec.ofInt IntKind.u64.bits (IntKind.u64.wrap (m * 2 ^ (min 8 IntKind.u64.bits))) ||| BitVec.ofInt IntKind.u64.bits (IntKind.u64.wrap (b.toNat : Int))).toNat)
def takeOf (s : List UInt8) : Int × Bool := if s.length = 8 then (s.foldl takeStep 0, true) else (0, false)
theorem eight {α : Type} {s : List α} (h : s.length = 8) : ∃ a b c d e f g i, s = [a, b, c, d, e, f, g, i] := by
  match s, h with
  | [a, b, c, d, e, f, g, i], _ => exact ⟨a, b, c, d, e, f, g, i, rfl⟩

def byteAt (m : Int) (k : Int) : UInt8 := UInt8.ofNat (IntKind.u8.wrap (m.fdiv (2 ^ (min k.toNat IntKind.u64.bits)))).toNat
def textOf (m : Int) : List UInt8 := [byteAt m 56, byteAt m 48, byteAt m 40, byteAt m 32, byteAt m 24, byteAt m 16, byteAt m 8, byteAt m 0]

theorem c_mark_Text (m : Int) : Contract Try.prog 102 [.int .u64 m] (.str (textOf m)) := by
  refine contract_of (C := cf 19 [0, 2, 3, 4, 5, 6] (fun _ => [])) (cf_ok _ _ _) (fn := Try.f102) Try.func102 (by kernel_rfl) rfl (by kernel_rfl) (by simp [cf]) (plain1 (.int _ m)) (by decide) (noCell (by kernel_rfl)) ?_
  simp only [go_sem, seval]
  refine ex_loop [0, 3, 5] 9 ?_
  simp only [go_sem, seval, ex_round, Int.cast_ofNat_Int, wi64]
  refine finOne ?_ (fun _ e => by cases e)
  show resOf _ _ [.tmp 2] = _
  simp only [go_sem, seval]
  rfl

theorem c_ref4_MarkText (m : Int) : Contract Try.prog 108 [.int .u64 m] (.str (textOf m)) := by
  refine contract_of (C := cf 19 [0, 2, 3, 4, 6] (fun _ => [])) (cf_ok _ _ _) (fn := Try.f108) Try.func108 (by kernel_rfl) rfl (by kernel_rfl) (by simp [cf]) (plain1 (.int _ m)) (by decide) (noCell (by kernel_rfl)) ?_
  simp only [go_sem, seval]
  refine ex_loop [0, 3, 4] 9 ?_
  simp only [go_sem, seval, ex_round, Int.cast_ofNat_Int, wi64]
  refine finOne ?_ (fun _ e => by cases e)
  show resOf _ _ [.tmp 2] = _
  simp only [go_sem, seval]
  rfl

end Go.Proofs.Ytpepfhbfooeoeaa.VA
end
section
namespace Go.Proofs.Ytpepfhbfooeoeaa.VA
set_option maxRecDepth 10000

theorem takeStep_nat (m : Nat) (b : UInt8) (hm : m < 72057594037927936) : takeStep (m : Int) b = ((m * 256 + b.toNat : Nat) : Int) := by
  have hb : b.toNat < 256 := b.toNat_lt
  have h8 : (2 : Int) ^ (min 8 IntKind.u64.bits) = 256 := by decide
  unfold takeStep
  rw [h8, wu64 (x := (m : Int) * 256) (by omega) (by omega), wu64 (x := (b.toNat : Int)) (by omega) (by omega)]
  have e1 : ((m : Int) * 256) = ((m * 256 : Nat) : Int) := by simp
  rw [e1, show IntKind.u64.bits = 64 from rfl, ofInt_nat, ofInt_nat, BitVec.toNat_or]
  have e2 : (BitVec.ofNat 64 (m * 256)).toNat = m * 256 := by rw [BitVec.toNat_ofNat]; omega
  have e3 : (BitVec.ofNat 64 b.toNat).toNat = b.toNat := by rw [BitVec.toNat_ofNat]; omega
  rw [e2, e3]
  have e4 : m * 256 ||| b.toNat = m * 256 + b.toNat := by
    have := Nat.two_pow_add_eq_or_of_lt (i := 8) hb m
    rw [Nat.mul_comm m 256]
    exact this.symm
  rw [e4, wu64 (by omega) (by omega)]
theorem byteAt_nat (m : Nat) (k j : Nat) (hk : k ≤ 64) (hj : 2 ^ k = j) : (byteAt (m : Int) (k : Int)).toNat = m / j % 256 := by
  unfold byteAt
  have e0 : min ((k : Int)).toNat IntKind.u64.bits = k := by rw [Int.toNat_natCast]; exact Nat.min_eq_left hk
  rw [e0]
  have e1 : ((m : Int)).fdiv (2 ^ k) = ((m / j : Nat) : Int) := by
    rw [← hj, Int.fdiv_eq_ediv_of_nonneg _ (by exact Int.le_of_lt (Int.pow_pos (by decide)))]
    simp
  rw [e1, IntKind.wrap_u8]
  have e2 : (((m / j : Nat) : Int) % 256).toNat = m / j % 256 := by omega
  rw [e2]
  simp
theorem take_step (q : Nat) (hq : q < 18446744073709551616) (b : UInt8) (hb : b.toNat = q % 256) (p : Nat) (hp : p = q / 256) : takeStep (p : Int) b = (q : Int) := by
  subst hp
  rw [takeStep_nat _ _ (by omega), hb]
  congr 1
  omega
theorem take_text (m : Nat) (hm : m < 18446744073709551616) : takeOf (textOf (m : Int)) = ((m : Int), true) := by
  unfold takeOf textOf
  rw [if_pos (show [byteAt (m : Int) 56, byteAt m 48, byteAt m 40, byteAt m 32, byteAt m 24, byteAt m 16, byteAt m 8, byteAt m 0].length = 8 from rfl)]
  simp only [List.foldl_cons, List.foldl_nil]
  have lt : ∀ k, m / k < 18446744073709551616 := fun k => Nat.lt_of_le_of_lt (Nat.div_le_self m k) hm
  have dd : ∀ k, m / (k * 256) = m / k / 256 := fun k => (Nat.div_div_eq_div_mul m k 256).symm
  have s7 := take_step (m / 72057594037927936) (lt _) (byteAt m 56) (byteAt_nat m 56 _ (by omega) (by decide)) 0 (by omega)
  have s6 := take_step (m / 281474976710656) (lt _) (byteAt m 48) (byteAt_nat m 48 _ (by omega) (by decide)) (m / 72057594037927936) (dd 281474976710656)
  have s5 := take_step (m / 1099511627776) (lt _) (byteAt m 40) (byteAt_nat m 40 _ (by omega) (by decide)) (m / 281474976710656) (dd 1099511627776)
  have s4 := take_step (m / 4294967296) (lt _) (byteAt m 32) (byteAt_nat m 32 _ (by omega) (by decide)) (m / 1099511627776) (dd 4294967296)
  have s3 := take_step (m / 16777216) (lt _) (byteAt m 24) (byteAt_nat m 24 _ (by omega) (by decide)) (m / 4294967296) (dd 16777216)
  have s2 := take_step (m / 65536) (lt _) (byteAt m 16) (byteAt_nat m 16 _ (by omega) (by decide)) (m / 16777216) (dd 65536)
  have s1 := take_step (m / 256) (lt _) (byteAt m 8) (byteAt_nat m 8 _ (by omega) (by decide)) (m / 65536) (dd 256)
  have s0 := take_step m hm (byteAt m 0) (by rw [show (0 : Int) = ((0 : Nat) : Int) from rfl, byteAt_nat m 0 1 (by omega) (by decide), Nat.div_one]) (m / 256) rfl
  rw [show takeStep 0 (byteAt (m : Int) 56) = takeStep ((0 : Nat) : Int) (byteAt (m : Int) 56) from rfl, s7, s6, s5, s4, s3, s2, s1, s0]

theorem markFrom_range (s : List UInt8) : ∀ m : Int, 0 ≤ m → m < 18446744073709551616 → 0 ≤ markFrom' m s ∧ markFrom' m s < 18446744073709551616 := by
  induction s with
  | nil => intro m h1 h2; exact ⟨h1, h2⟩
  | cons b s ih => intro m h1 h2; exact ih _ (u64_range _).1 (u64_range _).2
theorem take_text_mark (s : List UInt8) : takeOf (textOf (markOf s)) = (markOf s, true) := by
  obtain ⟨h1, h2⟩ := markFrom_range s 14695981039346656037 (by decide) (by decide)
  have := take_text (markOf s).toNat (by unfold markOf; omega)
  have e : ((markOf s).toNat : Int) = markOf s := Int.toNat_of_nonneg h1
  rw [e] at this
  exact this
end Go.Proofs.Ytpepfhbfooeoeaa.VA
end
section
namespace Go.Proofs.Ytpepfhbfooeoeaa.VA
set_option maxRecDepth 10000
set_option maxHeartbeats 4000000

def hashOf (s : List UInt8) : Int := markOf ([98, 108, 111, 98] ++ s)
theorem c_ref4_Hash (s : List UInt8) (hs : s.length ≤ 9223372036854775800) : Contract Try.prog 77 [.str s] (.int .u64 (hashOf s)) := by
  refine contract_of (C := cf 6 [0, 2] (fun _ => [])) (cf_ok _ _ _) (fn := Try.f77) Try.func77 (by kernel_rfl) rfl (by kernel_rfl) (by simp [cf]) (plain1 (.str s)) (by decide) (noCell (by kernel_rfl)) ?_
  simp only [go_sem, seval]
  refine ⟨by omega, ?_⟩
  refine ex_call (c_ref4_Mark _ (by simp only [List.length_cons]; omega)) ?_
  simp only [go_sem, seval]
  refine finOne ?_ (fun _ e => by cases e)
  show resOf _ _ [.tmp 2] = _
  simp only [go_sem, seval]
  rfl

theorem c_blob_Hash (s : List UInt8) (hs : s.length ≤ 9223372036854775800) : Contract Try.prog 131 [.str s] (.tup [.int .u64 (if s.length ≤ 64 then hashOf s else 0), .int .i64 (if s.length ≤ 64 then 0 else 2)]) := by
  refine contract_of (C := cf 10 [0, 2, 3, 6] (fun _ => [])) (cf_ok _ _ _) (fn := Try.f131) Try.func131 (by kernel_rfl) rfl (by kernel_rfl) (by simp [cf]) (plain1 (.str s)) (by decide) (noCell (by kernel_rfl)) ?_
  simp only [go_sem, seval]
  refine ex_br (fun h => ?_) (fun h => ?_)
  · have h : ¬ s.length ≤ 64 := by simp at h; omega
    rw [if_neg h, if_neg h]
    simp only [go_sem, seval]
    refine finTup ?_
    show resOf _ _ [.tmp 2, .tmp 3] = _
    simp only [go_sem, seval]
  · have h : s.length ≤ 64 := by simp at h; omega
    rw [if_pos h, if_pos h]
    simp only [go_sem, seval]
    refine ⟨by omega, ?_⟩
    refine ex_call (c_mark_Mark _ (by simp only [List.length_cons]; omega)) ?_
    simp only [go_sem, seval]
    refine finTup ?_
    show resOf _ _ [.tmp 2, .tmp 3] = _
    simp only [go_sem, seval]
    rfl

def gasOf (n : Int) : Int := if n < 1 ∨ n > 4 then 0 else n * 131072
def gasErr (n : Int) : Int := if n < 1 ∨ n > 4 then 1 else 0
theorem c_blob_Gas (n : Int) : Contract Try.prog 132 [.int .i64 n] (.tup [.int .i64 (gasOf n), .int .i64 (gasErr n)]) := by
  refine contract_of (C := cf 12 [0, 2, 3, 9] (fun _ => [])) (cf_ok _ _ _) (fn := Try.f132) Try.func132 (by kernel_rfl) rfl (by kernel_rfl) (by simp [cf]) (plain1 (.int _ n)) (by decide) (noCell (by kernel_rfl)) ?_
  unfold gasOf gasErr
  simp only [go_sem, seval]
  refine ex_joinB 9 (decide (n < 1) || decide (n > 4)) ?_ ?_
  · repeat' (first | (refine ex_split (fun h => ?_) (fun h => ?_)) | (with_reducible refine And.intro (by omega) ?_) |
      (simp only [go_sem, seval]))
    all_goals (try simp only [ASt.mk.injEq, List.cons.injEq, Prod.mk.injEq, AV.bool.injEq, true_and, and_true, eq_self])
    all_goals first | (simp_all; done) | (simp_all; omega) | (rw [Bool.eq_iff_iff]; simp only [List.length_map, Bool.or_eq_true, Bool.and_eq_true, Bool.not_eq_true', Bool.not_eq_false', decide_eq_true_eq, decide_eq_false_iff_not, bne_iff_ne, beq_iff_eq, ne_eq, true_iff, iff_true, false_iff, iff_false, Bool.false_eq_true, not_false_eq_true, not_true_eq_false] at *; omega)
  refine ex_br (fun h => ?_) (fun h => ?_)
  · have h : n < 1 ∨ n > 4 := by simpa using h
    rw [if_pos h, if_pos h]
    simp only [go_sem, seval]
    refine finTup ?_
    show resOf _ _ [.tmp 2, .tmp 3] = _
    simp only [go_sem, seval]
  · have h : ¬ (n < 1 ∨ n > 4) := by simpa using h
    rw [if_neg h, if_neg h]
    simp only [go_sem, seval]
    refine finTup ?_
    show resOf _ _ [.tmp 2, .tmp 3] = _
    simp only [go_sem, seval]
    rw [wi64 (by omega) (by omega)]

/-- What the hashes of blobs, one by one, are unlike. -/
def unlike : List Int → List (List UInt8) → Bool
  | h :: hs, b :: bs => (hashOf b != h) || unlike hs bs
  | _, _ => false
theorem unlike_take : ∀ (hs : List Int) (bs : List (List UInt8)) (i : Nat) (h : Int) (b : List UInt8), hs[i]? = some h → bs[i]? = some b → unlike (hs.take (i + 1)) (bs.take (i + 1)) = (unlike (hs.take i) (bs.take i) || hashOf b != h)
  | [], _, i, h, b, e, _ => by cases e
  | _ :: _, [], i, h, b, _, e => by cases e
  | x :: hs, y :: bs, 0, h, b, e1, e2 => by
    simp only [List.getElem?_cons_zero, Option.some.injEq] at e1 e2
    subst e1; subst e2
    simp [unlike]
  | x :: hs, y :: bs, i + 1, h, b, e1, e2 => by
    simp only [List.getElem?_cons_succ] at e1 e2
    have ih := unlike_take hs bs i h b e1 e2
    simp only [List.take_succ_cons, unlike] at ih ⊢
    rw [ih, Bool.or_assoc]
theorem unlike_of : ∀ {hs : List Int} {bs : List (List UInt8)} {i : Nat}, unlike (hs.take i) (bs.take i) = true → unlike hs bs = true
  | [], _, i, h => by simp [unlike] at h
  | _ :: _, [], i, h => by simp [unlike] at h
  | x :: hs, y :: bs, 0, h => by simp [unlike] at h
  | x :: hs, y :: bs, i + 1, h => by
    simp only [List.take_succ_cons, unlike, Bool.or_eq_true] at h ⊢
    rcases h with h | h
    · exact .inl h
    · exact .inr (unlike_of h)
def tooLong (bs : List (List UInt8)) : Bool := bs.any fun b => decide (b.length > 64)
theorem tooLong_take (bs : List (List UInt8)) (i : Nat) (b : List UInt8) (e : bs[i]? = some b) : tooLong (bs.take (i + 1)) = (tooLong (bs.take i) || decide (b.length > 64)) := by
  unfold tooLong
  rw [List.take_add_one, e, List.any_append]
  simp
theorem tooLong_of {bs : List (List UInt8)} {i : Nat} {b : List UInt8} (e : bs[i]? = some b) (h : b.length > 64) : tooLong bs = true := by
  unfold tooLong
  rw [List.any_eq_true]
  exact ⟨b, List.mem_of_getElem? e, by simpa using h⟩
def badFit (hs : List Int) (bs : List (List UInt8)) : Bool := decide (bs.length < 1) || decide (bs.length > 4) || decide (hs.length ≠ bs.length)
/-- Whether hashes fit blobs: the error. -/
def fitsOf (hs : List Int) (bs : List (List UInt8)) : Int := if badFit hs bs = true then 1 else if tooLong bs = true then 2 else if unlike hs bs = true then 1 else 0

theorem c_blob_Fits (hs : List Int) (bs : List (List UInt8)) (hb : ∀ b ∈ bs, b.length ≤ reachBytes) : Contract Try.prog 113 [ints .u64 hs, strs bs] (.int .i64 (fitsOf hs bs)) := by
  refine contract_of (C := cf 51 [0, 1, 4, 5, 6, 7, 8, 9, 24, 25, 26, 27, 28, 38, 50] (fun _ => [])) (cf_ok _ _ _) (fn := Try.f113) Try.func113 (by kernel_rfl) rfl (by kernel_rfl) (by simp [cf]) (plain2 (ints_plain _ hs) (strs_plain bs)) (by decide) (noCell (by kernel_rfl)) ?_
  simp only [go_sem, seval, ints, strs, List.length_map]
  refine ex_joinB 24 (badFit hs bs) ?_ ?_
  · repeat' (first | (refine ex_split (fun h => ?_) (fun h => ?_)) | (with_reducible refine And.intro (by omega) ?_) |
      (simp only [go_sem, seval, badFit, Int.ofNat_eq_natCast]))
    all_goals (try simp only [ASt.mk.injEq, List.cons.injEq, Prod.mk.injEq, AV.bool.injEq, true_and, and_true, eq_self])
    all_goals first | (simp_all; done) | (simp_all; omega) | (rw [Bool.eq_iff_iff]; simp only [List.length_map, Bool.or_eq_true, Bool.and_eq_true, Bool.not_eq_true', Bool.not_eq_false', decide_eq_true_eq, decide_eq_false_iff_not, bne_iff_ne, beq_iff_eq, ne_eq, true_iff, iff_true, false_iff, iff_false, Bool.false_eq_true, not_false_eq_true, not_true_eq_false] at *; omega)
  refine ex_br (fun h => ?_) (fun h => ?_)
  · simp only [go_sem, seval]
    refine finOne ?_ (fun _ e => by cases e)
    show resOf _ _ [.tmp 4] = _
    simp only [go_sem, seval, fitsOf, h]
  · simp only [go_sem, seval]
    have hbf : bs.length ≤ 4 ∧ hs.length = bs.length := by
      simp only [badFit, Bool.or_eq_false_iff, decide_eq_false_iff_not, ne_eq, Decidable.not_not] at h
      omega
    refine ex_iter [0, 1, 5, 25, 26, 27] (fun i : Nat => ⟨[(0, .sl false 1 (hs.map (AV.int .u64))), (1, .sl false 1 (bs.map AV.str)), (5, .bool (unlike (hs.take i) (bs.take i))), (25, .sl false 1 (bs.map AV.str)), (26, .int .i64 bs.length), (27, .int .i64 i)], [], []⟩)
      (fun i => i ≤ bs.length ∧ tooLong (bs.take i) = false) (fun i => bs.length - i) 0 ?_ ?_ ?_
    · simp only [ASt.keep, consIf, keepL, keepV, AV.isBot, List.contains_cons, List.contains_nil, Nat.reduceBEq, Bool.or_false, Bool.false_or, Bool.or_true, Bool.true_or, beq_self_eq_true, Bool.false_eq_true, ↓reduceIte, if_false, if_true]
      rw [List.length_map]; rfl
    · exact ⟨Nat.zero_le _, rfl⟩
    · intro n i hi next
      simp only [go_sem, seval]
      refine ex_br (fun hc => ?_) (fun hc => ?_)
      · have hlt : i < bs.length := by simpa using hc
        obtain ⟨b, eb⟩ : ∃ b, bs[i]? = some b := ⟨_, List.getElem?_eq_getElem hlt⟩
        obtain ⟨x, ex⟩ : ∃ x, hs[i]? = some x := ⟨_, List.getElem?_eq_getElem (by omega)⟩
        have hbl := hb b (List.mem_of_getElem? eb)
        unfold reachBytes at hbl
        simp only [go_sem, seval, List.length_map, List.getElem?_map, eb, Int.toNat_natCast]
        refine ⟨⟨by omega, by omega⟩, ?_⟩
        by_cases h64 : b.length ≤ 64
        · refine ex_call (c_blob_Hash b (by omega)) ?_
          simp only [go_sem, seval, if_pos h64]
          have ut := unlike_take hs bs i x b ex eb
          refine ex_joinB 5 (unlike (hs.take (i + 1)) (bs.take (i + 1))) ?_ ?_
          · repeat' (first | (refine ex_split (fun h => ?_) (fun h => ?_)) | (with_reducible refine And.intro (by omega) ?_) |
              (simp only [go_sem, seval, List.length_map, List.getElem?_map, ex, Int.toNat_natCast]))
            all_goals (try simp only [ASt.mk.injEq, List.cons.injEq, Prod.mk.injEq, AV.bool.injEq, true_and, and_true, eq_self])
            all_goals first | (simp_all; done) | (simp_all; omega) | (rw [Bool.eq_iff_iff]; simp only [List.length_map, Bool.or_eq_true, Bool.and_eq_true, Bool.not_eq_true', Bool.not_eq_false', decide_eq_true_eq, decide_eq_false_iff_not, bne_iff_ne, beq_iff_eq, ne_eq, true_iff, iff_true, false_iff, iff_false, Bool.false_eq_true, not_false_eq_true, not_true_eq_false] at *; omega)
          simp only [go_sem, seval]
          refine next (i + 1) _ ⟨by omega, by rw [tooLong_take _ _ _ eb, hi.2]; simpa using h64⟩ (by omega) ?_
          rw [← wi64_nat i (by omega)]
          simp only [ASt.keep, consIf, keepL, keepV, AV.isBot, List.contains_cons, List.contains_nil, Nat.reduceBEq, Bool.or_false, Bool.false_or, Bool.or_true, Bool.true_or, beq_self_eq_true, Bool.false_eq_true, ↓reduceIte, if_false, if_true]
        · refine ex_call (c_blob_Hash b (by omega)) ?_
          simp only [go_sem, seval, if_neg h64]
          refine finOne ?_ (fun _ e => by cases e)
          show resOf _ _ [.tmp 4] = _
          simp only [go_sem, seval, fitsOf, h, tooLong_of eb (by omega)]
      · have hge : i = bs.length := by simp at hc; omega
        subst hge
        have h1 : List.take bs.length hs = hs := by rw [← hbf.2]; exact List.take_length
        have h2 := hi.2
        rw [List.take_length] at h2
        simp only [go_sem, seval, List.take_length, h1]
        refine ex_br (fun hu => ?_) (fun hu => ?_)
        · simp only [go_sem, seval]
          refine finOne ?_ (fun _ e => by cases e)
          show resOf _ _ [.tmp 4] = _
          simp only [go_sem, seval, fitsOf, h, h2, hu]
        · simp only [go_sem, seval]
          refine finOne ?_ (fun _ e => by cases e)
          show resOf _ _ [.tmp 4] = _
          simp only [go_sem, seval, fitsOf, h, h2, hu]

theorem c_ref4_Fits (hs : List Int) (bs : List (List UInt8)) (hb : ∀ b ∈ bs, b.length ≤ reachBytes) : Contract Try.prog 86 [ints .u64 hs, strs bs] (.int .i64 (fitsOf hs bs)) := by
  refine contract_of (C := cf 50 [0, 1, 4, 5, 6, 21, 25, 33, 37, 49] (fun _ => [])) (cf_ok _ _ _) (fn := Try.f86) Try.func86 (by kernel_rfl) rfl (by kernel_rfl) (by simp [cf]) (plain2 (ints_plain _ hs) (strs_plain bs)) (by decide) (noCell (by kernel_rfl)) ?_
  simp only [go_sem, seval, ints, strs, List.length_map]
  refine ex_joinB 21 (badFit hs bs) ?_ ?_
  · repeat' (first | (refine ex_split (fun h => ?_) (fun h => ?_)) | (with_reducible refine And.intro (by omega) ?_) |
      (simp only [go_sem, seval, badFit, Int.ofNat_eq_natCast]))
    all_goals (try simp only [ASt.mk.injEq, List.cons.injEq, Prod.mk.injEq, AV.bool.injEq, true_and, and_true, eq_self])
    all_goals first | (simp_all; done) | (simp_all; omega) | (rw [Bool.eq_iff_iff]; simp only [List.length_map, Bool.or_eq_true, Bool.and_eq_true, Bool.not_eq_true', Bool.not_eq_false', decide_eq_true_eq, decide_eq_false_iff_not, bne_iff_ne, beq_iff_eq, ne_eq, true_iff, iff_true, false_iff, iff_false, Bool.false_eq_true, not_false_eq_true, not_true_eq_false] at *; omega)
  refine ex_br (fun h => ?_) (fun h => ?_)
  · simp only [go_sem, seval]
    refine finOne ?_ (fun _ e => by cases e)
    show resOf _ _ [.tmp 4] = _
    simp only [go_sem, seval, fitsOf, h]
  · simp only [go_sem, seval]
    have hbf : bs.length ≤ 4 ∧ hs.length = bs.length := by
      simp only [badFit, Bool.or_eq_false_iff, decide_eq_false_iff_not, ne_eq, Decidable.not_not] at h
      omega
    refine ex_iter [0, 1, 5] (fun i : Nat => ⟨[(0, .sl false 1 (hs.map (AV.int .u64))), (1, .sl false 1 (bs.map AV.str)), (5, .int .i64 i)], [], []⟩)
      (fun i => i ≤ bs.length ∧ tooLong (bs.take i) = false) (fun i => bs.length - i) 0 ?_ ?_ ?_
    · simp only [ASt.keep, consIf, keepL, keepV, AV.isBot, List.contains_cons, List.contains_nil, Nat.reduceBEq, Bool.or_false, Bool.false_or, Bool.or_true, Bool.true_or, beq_self_eq_true, Bool.false_eq_true, ↓reduceIte, if_false, if_true]
      rfl
    · exact ⟨Nat.zero_le _, rfl⟩
    · intro n i hi next
      simp only [go_sem, seval, List.length_map]
      refine ex_br (fun hc => ?_) (fun hc => ?_)
      · have hlt : i < bs.length := by simpa using hc
        obtain ⟨b, eb⟩ : ∃ b, bs[i]? = some b := ⟨_, List.getElem?_eq_getElem hlt⟩
        have hbl := hb b (List.mem_of_getElem? eb)
        unfold reachBytes at hbl
        simp only [go_sem, seval, List.length_map, List.getElem?_map, eb, Int.toNat_natCast]
        refine ⟨⟨by omega, by omega⟩, ?_⟩
        refine ex_br (fun h64 => ?_) (fun h64 => ?_)
        · have h64 : 64 < b.length := by simp at h64; omega
          simp only [go_sem, seval]
          refine finOne ?_ (fun _ e => by cases e)
          show resOf _ _ [.tmp 4] = _
          simp only [go_sem, seval, fitsOf, h, tooLong_of eb (by omega)]
        · have h64 : b.length ≤ 64 := by simp at h64; omega
          simp only [go_sem, seval]
          refine next (i + 1) _ ⟨by omega, by rw [tooLong_take _ _ _ eb, hi.2]; simpa using h64⟩ (by omega) ?_
          rw [← wi64_nat i (by omega)]
          simp only [ASt.keep, consIf, keepL, keepV, AV.isBot, List.contains_cons, List.contains_nil, Nat.reduceBEq, Bool.or_false, Bool.false_or, Bool.or_true, Bool.true_or, beq_self_eq_true, Bool.false_eq_true, ↓reduceIte, if_false, if_true]
      · have hge : i = bs.length := by simp at hc; omega
        subst hge
        have h2 := hi.2
        rw [List.take_length] at h2
        simp only [go_sem, seval]
        clear next hi n
        refine ex_iter [0, 1, 6] (fun i : Nat => ⟨[(0, .sl false 1 (hs.map (AV.int .u64))), (1, .sl false 1 (bs.map AV.str)), (6, .int .i64 i)], [], []⟩)
          (fun i => i ≤ bs.length ∧ unlike (hs.take i) (bs.take i) = false) (fun i => bs.length - i) 0 ?_ ?_ ?_
        · simp only [ASt.keep, consIf, keepL, keepV, AV.isBot, List.contains_cons, List.contains_nil, Nat.reduceBEq, Bool.or_false, Bool.false_or, Bool.or_true, Bool.true_or, beq_self_eq_true, Bool.false_eq_true, ↓reduceIte, if_false, if_true]
          rfl
        · exact ⟨Nat.zero_le _, rfl⟩
        · intro n i hi next
          simp only [go_sem, seval, List.length_map]
          refine ex_br (fun hc => ?_) (fun hc => ?_)
          · have hlt : i < bs.length := by simpa using hc
            obtain ⟨b, eb⟩ : ∃ b, bs[i]? = some b := ⟨_, List.getElem?_eq_getElem hlt⟩
            obtain ⟨x, ex⟩ : ∃ x, hs[i]? = some x := ⟨_, List.getElem?_eq_getElem (by omega)⟩
            have hbl := hb b (List.mem_of_getElem? eb)
            unfold reachBytes at hbl
            simp only [go_sem, seval]
            refine ex_draw [] [] (.quiet 0 (.quiet 1 (.quiet 2 (.quiet 3 (.quiet 4 (.quiet 5 (.quiet 6 (.quiet 7 (.one 8 (.quiet 9 (.fin))))))))))) (by kernel_rfl) ?_
            simp only [go_sem, seval, List.length_map, List.getElem?_map, eb, ex, Int.toNat_natCast]
            refine ⟨⟨by omega, by omega⟩, ⟨by omega, by omega⟩, ?_⟩
            refine ex_call (c_ref4_Hash b (by omega)) ?_
            simp only [go_sem, seval]
            have ut := unlike_take hs bs i x b ex eb
            rw [hi.2, Bool.false_or] at ut
            refine ex_br (fun hu => ?_) (fun hu => ?_)
            · have hne : hashOf b ≠ x := by simp only [bne_iff_ne, ne_eq] at hu; exact fun e => hu e.symm
              have hun : unlike hs bs = true := unlike_of (by rw [ut]; simpa using hne)
              simp only [go_sem, seval]
              refine finOne ?_ (fun _ e => by cases e)
              show resOf _ _ [.tmp 4] = _
              simp only [go_sem, seval, fitsOf, h, h2, hun]
            · have hne : hashOf b = x := by simp only [bne_eq_false_iff_eq] at hu; exact hu.symm
              simp only [go_sem, seval]
              refine next (i + 1) _ ⟨by omega, by rw [ut]; simpa using hne⟩ (by omega) ?_
              rw [← wi64_nat i (by omega)]
              simp only [ASt.keep, consIf, keepL, keepV, AV.isBot, List.contains_cons, List.contains_nil, Nat.reduceBEq, Bool.or_false, Bool.false_or, Bool.or_true, Bool.true_or, beq_self_eq_true, Bool.false_eq_true, ↓reduceIte, if_false, if_true]
          · have hge : i = bs.length := by simp at hc; omega
            subst hge
            have h1 : List.take bs.length hs = hs := by rw [← hbf.2]; exact List.take_length
            have h3 := hi.2
            rw [List.take_length, h1] at h3
            simp only [go_sem, seval]
            refine finOne ?_ (fun _ e => by cases e)
            show resOf _ _ [.tmp 4] = _
            simp only [go_sem, seval, fitsOf, h, h2, h3]

end Go.Proofs.Ytpepfhbfooeoeaa.VA
end
section
namespace Go.Proofs.Ytpepfhbfooeoeaa.VA

def bitsOf (n : Nat) : Nat := if n = 0 then 0 else Nat.log2 n + 1
theorem bits_le (n k : Nat) : bitsOf n ≤ k ↔ n < 2 ^ k := by
  unfold bitsOf
  split
  · rename_i h
    subst h
    simp [Nat.two_pow_pos]
  · rename_i h
    rw [← Nat.log2_lt h]
    omega
def byteLen (n : Nat) : Nat := (bitsOf n + 7) / 8
theorem byteLen_le (n k : Nat) : byteLen n ≤ k ↔ n < 256 ^ k := by
  have e : 256 ^ k = 2 ^ (8 * k) := by rw [show (256 : Nat) = 2 ^ 8 by decide, ← Nat.pow_mul]
  rw [e, ← bits_le]
  unfold byteLen
  omega
theorem byteLen_lt (n : Nat) : n < 256 ^ byteLen n := (byteLen_le n _).1 (Nat.le_refl _)
theorem byteLen_ge (n : Nat) (h : byteLen n ≠ 0) : 256 ^ (byteLen n - 1) ≤ n := by
  by_cases e : n < 256 ^ (byteLen n - 1)
  · have := (byteLen_le n _).2 e
    omega
  · omega
theorem byteLen_eq {n k : Nat} (h1 : n < 256 ^ k) (h2 : k = 0 ∨ 256 ^ (k - 1) ≤ n) : byteLen n = k := by
  have h3 := (byteLen_le n k).2 h1
  rcases h2 with rfl | h2
  · omega
  · by_cases e : byteLen n ≤ k - 1
    · have := (byteLen_le n _).1 e
      omega
    · omega
/-- The lowest k bytes. -/
def low : Nat → Nat → List UInt8
  | 0, _ => []
  | k + 1, n => UInt8.ofNat (n / 256 ^ k) :: low k n
theorem low_len : ∀ k n, (low k n).length = k
  | 0, _ => rfl
  | k + 1, n => by rw [low, List.length_cons, low_len k n]
theorem low_get : ∀ (k n i : Nat), i < k → (low k n)[i]? = some (UInt8.ofNat (n / 256 ^ (k - 1 - i)))
  | 0, _, _, h => by omega
  | k + 1, n, 0, _ => by rw [low]; rfl
  | k + 1, n, i + 1, h => by
    rw [low, List.getElem?_cons_succ, low_get k n i (by omega), show k + 1 - 1 - (i + 1) = k - 1 - i by omega]
def bytesOf (n : Nat) : List UInt8 := low (byteLen n) n
theorem bytesOf_len (n : Nat) : (bytesOf n).length = byteLen n := low_len _ _
/-- The number that bytes are. -/
def numOf (s : List UInt8) : Nat := s.foldl (fun a b => a * 256 + b.toNat) 0
theorem foldl_val : ∀ (s : List UInt8) (a : Nat), s.foldl (fun a b => a * 256 + b.toNat) a = a * 256 ^ s.length + numOf s
  | [], a => by simp [numOf]
  | b :: s, a => by
    have e : numOf (b :: s) = b.toNat * 256 ^ s.length + numOf s := by
      show (b :: s).foldl (fun a b => a * 256 + b.toNat) 0 = _
      rw [List.foldl_cons, foldl_val s, Nat.zero_mul, Nat.zero_add]
    rw [e, List.foldl_cons, foldl_val s, List.length_cons, Nat.pow_succ]
    rw [Nat.add_mul, Nat.mul_assoc, Nat.mul_comm 256, Nat.add_assoc]
theorem numOf_nil : numOf [] = 0 := rfl
theorem numOf_cons (b : UInt8) (s : List UInt8) : numOf (b :: s) = b.toNat * 256 ^ s.length + numOf s := by
  rw [numOf, List.foldl_cons, foldl_val]; simp
theorem numOf_lt : ∀ s : List UInt8, numOf s < 256 ^ s.length
  | [] => by decide
  | b :: s => by
    have h1 := numOf_lt s
    have h2 : b.toNat < 256 := b.toNat_lt
    rw [numOf_cons, List.length_cons, Nat.pow_succ]
    have : (b.toNat + 1) * 256 ^ s.length ≤ 256 * 256 ^ s.length := Nat.mul_le_mul_right _ h2
    rw [Nat.add_mul, Nat.one_mul, Nat.mul_comm 256] at this
    omega
theorem low_val : ∀ (k n : Nat), numOf (low k n) = n % 256 ^ k
  | 0, n => by rw [low, numOf_nil, Nat.pow_zero, Nat.mod_one]
  | k + 1, n => by
    rw [low, numOf_cons, low_len, low_val k n]
    have : (UInt8.ofNat (n / 256 ^ k)).toNat = n / 256 ^ k % 256 := by simp
    rw [this, Nat.pow_succ, Nat.mod_mul, Nat.mul_comm (256 ^ k)]
    omega
theorem bytesOf_val (n : Nat) : numOf (bytesOf n) = n := by
  unfold bytesOf
  rw [low_val, Nat.mod_eq_of_lt (byteLen_lt n)]
theorem low_mod {k m : Nat} (h : k ≤ m) (n : Nat) : low k (n % 256 ^ m) = low k n := by
  refine List.ext_getElem? fun i => ?_
  by_cases hi : i < k
  · rw [low_get _ _ _ hi, low_get _ _ _ hi]
    congr 1
    apply UInt8.toNat_inj.1
    simp only [UInt8.toNat_ofNat']
    have e : (256 : Nat) ^ m = 256 ^ (k - 1 - i) * 256 ^ (m - (k - 1 - i)) := by rw [← Nat.pow_add]; congr 1; omega
    have e2 : (256 : Nat) ^ (m - (k - 1 - i)) = 256 * 256 ^ (m - (k - 1 - i) - 1) := by
      conv => lhs; rw [show m - (k - 1 - i) = (m - (k - 1 - i) - 1) + 1 by omega, Nat.pow_succ, Nat.mul_comm]
    rw [e, Nat.mod_mul_right_div_self, e2]
    show _ % 2 ^ 8 = _ % 2 ^ 8
    rw [show (2 : Nat) ^ 8 = 256 by decide, Nat.mod_mul_right_mod]
  · rw [List.getElem?_eq_none (by rw [low_len]; omega), List.getElem?_eq_none (by rw [low_len]; omega)]
theorem low_numOf (s : List UInt8) : low s.length (numOf s) = s := by
  induction s with
  | nil => rfl
  | cons b s ih =>
    rw [List.length_cons, low, numOf_cons]
    have h1 := numOf_lt s
    have h2 : b.toNat < 256 := b.toNat_lt
    have e1 : (b.toNat * 256 ^ s.length + numOf s) / 256 ^ s.length = b.toNat := by
      rw [Nat.mul_comm, Nat.mul_add_div (by exact Nat.pow_pos (by decide)), Nat.div_eq_of_lt h1, Nat.add_zero]
    have e2 : low s.length (b.toNat * 256 ^ s.length + numOf s) = low s.length (numOf s) := by
      rw [← low_mod (Nat.le_refl _), Nat.mul_comm, Nat.mul_add_mod, Nat.mod_eq_of_lt h1]
    rw [e1, e2, ih]
    congr 1
    exact UInt8.ofNat_toNat
theorem bytesOf_numOf {s : List UInt8} (h : s.head? ≠ some 0) : byteLen (numOf s) = s.length ∧ bytesOf (numOf s) = s := by
  have e : byteLen (numOf s) = s.length := by
    refine byteLen_eq (numOf_lt s) ?_
    cases s with
    | nil => exact .inl rfl
    | cons b s =>
      refine .inr ?_
      rw [List.length_cons, Nat.add_sub_cancel, numOf_cons]
      have : b ≠ 0 := fun e => h (by rw [e]; rfl)
      have : b.toNat ≠ 0 := fun e => this (UInt8.toNat_inj.1 (by rw [e]; rfl))
      have : 1 * 256 ^ s.length ≤ b.toNat * 256 ^ s.length := Nat.mul_le_mul_right _ (by omega)
      omega
  refine ⟨e, ?_⟩
  unfold bytesOf
  rw [e, low_numOf]
theorem bytesOf_head (n : Nat) : (bytesOf n).head? ≠ some 0 := by
  unfold bytesOf
  cases hk : byteLen n with
  | zero => simp [low]
  | succ k =>
    rw [low, List.head?_cons]
    intro e
    have e := congrArg UInt8.toNat (Option.some.inj e)
    have h1 := byteLen_ge n (by omega)
    have h2 := byteLen_lt n
    rw [hk] at h1 h2
    rw [Nat.add_sub_cancel] at h1
    have h3 : n / 256 ^ k < 256 := Nat.div_lt_of_lt_mul (by rw [Nat.pow_succ] at h2; exact h2)
    have h4 : 1 ≤ n / 256 ^ k := (Nat.one_le_div_iff (Nat.pow_pos (by decide))).2 h1
    have e : n / 256 ^ k % 2 ^ 8 = 0 := by simpa using e
    rw [Nat.mod_eq_of_lt h3] at e
    omega
theorem numOf_append (s t : List UInt8) : numOf (s ++ t) = numOf s * 256 ^ t.length + numOf t := by
  rw [numOf, List.foldl_append, foldl_val]; rfl
theorem numOf_snoc (s : List UInt8) (b : UInt8) : numOf (s ++ [b]) = numOf s * 256 + b.toNat := by
  rw [numOf_append, numOf_cons, numOf_nil]; simp
/-- From the end: one byte more at the front. -/
theorem numOf_drop {s : List UInt8} {i : Nat} {b : UInt8} (h : s[i]? = some b) : numOf (s.drop i) = b.toNat * 256 ^ (s.length - 1 - i) + numOf (s.drop (i + 1)) := by
  obtain ⟨hi, rfl⟩ := List.getElem?_eq_some_iff.1 h
  rw [← List.getElem_cons_drop hi, numOf_cons, List.length_drop]
  congr 3
  omega
end Go.Proofs.Ytpepfhbfooeoeaa.VA
end
section
namespace Go.Proofs.Ytpepfhbfooeoeaa.VA
set_option maxRecDepth 10000
set_option maxHeartbeats 4000000

theorem u_small (n : Nat) (h : n < 18446744073709551616) : u n = .agg [.int .u64 n, .int .u64 (0 : Int), .int .u64 (0 : Int), .int .u64 (0 : Int)] :=
  u_eq (b := 0) (c := 0) (d := 0) h (by decide) (by decide) (by decide) (by omega)
theorem c_u256_Of (n : Nat) (h : n < 9223372036854775808) : Contract Try.prog 150 [.int .i64 n] (.tup [u n, .int .i64 0]) := by
  rw [u_small n (by omega)]
  refine contract_of (C := cf 10 [0, 2, 3, 5] (fun _ => [])) (cf_ok _ _ _) (fn := Try.f150) Try.func150 (by kernel_rfl) rfl (by kernel_rfl) (by simp [cf]) (plain1 (.int _ _)) (by decide) (cellsOk (by kernel_rfl)) ?_
  have w : IntKind.u64.wrap (n : Int) = n := wu64 (by omega) (by omega)
  have e : decide ((n : Int) < 0) = false := decide_eq_false (by omega)
  simp only [go_sem, seval, w, e]
  refine finTup ?_
  show resOf _ _ [.cell 2 25, .tmp 3] = _
  simp only [go_sem, seval]
theorem c_ref1_Of (n : Nat) (h : n < 9223372036854775808) : Contract Try.prog 118 [.int .i64 n] (u n) := by
  rw [u_small n (by omega)]
  refine contract_of (C := cf 6 [0, 2] (fun _ => [])) (cf_ok _ _ _) (fn := Try.f118) Try.func118 (by kernel_rfl) rfl (by kernel_rfl) (by simp [cf]) (plain1 (.int _ _)) (by decide) (cellsOk (by kernel_rfl)) ?_
  have w : IntKind.u64.wrap (n : Int) = n := wu64 (by omega) (by omega)
  simp only [go_sem, seval, w]
  refine finOne ?_ (fun _ e => by cases e)
  show resOf _ _ [.cell 2 25] = _
  simp only [go_sem, seval]
theorem bits_div (n k : Nat) : bitsOf (n / 2 ^ k) = bitsOf n - k := by
  have h : ∀ j, bitsOf (n / 2 ^ k) ≤ j ↔ bitsOf n ≤ j + k := fun j => by
    rw [bits_le, bits_le, Nat.div_lt_iff_lt_mul (Nat.two_pow_pos k), Nat.pow_add]
  have h1 := (h (bitsOf n - k)).2 (by omega)
  have h2 := (h (bitsOf (n / 2 ^ k))).1 (Nat.le_refl _)
  omega
def limbsOf (n : Nat) : Nat := (bitsOf n + 63) / 64
theorem limbs_eq {n i : Nat} (h1 : n < 2 ^ (64 * i)) (h2 : i = 0 ∨ 2 ^ (64 * (i - 1)) ≤ n) : limbsOf n = i := by
  have h3 := (bits_le n _).2 h1
  unfold limbsOf
  rcases h2 with rfl | h2
  · omega
  · have : ¬ bitsOf n ≤ 64 * (i - 1) := fun e => by
      have := (bits_le n _).1 e
      omega
    omega
theorem wi0 : IntKind.i64.wrap 0 = 0 := by decide
theorem wi1 : IntKind.i64.wrap 1 = 1 := by decide
theorem wi2 : IntKind.i64.wrap 2 = 2 := by decide
theorem wi3 : IntKind.i64.wrap 3 = 3 := by decide
theorem c_u256_limbs (n : Nat) (hn : n < U) : Contract Try.prog 144 [u n] (.int .i64 (limbsOf n)) := by
  obtain ⟨s0, s1, s2, s3, h0, h1, h2, h3, en⟩ := u_limbs n hn
  rw [u_eq h0 h1 h2 h3 en]
  refine contract_of (C := cf 16 [1, 2, 3, 12] (fun _ => [])) (cf_ok _ _ _) (fn := Try.f144) Try.func144 (by kernel_rfl) rfl (by kernel_rfl) (by simp [cf]) (plain1 (u4_plain _ _ _ _)) (by decide) (noCell (by kernel_rfl)) ?_
  simp only [go_sem, seval]
  refine ex_iter [1, 3] (fun i : Nat => ⟨[(1, .var 1 0), (3, .int .i64 i)], [(1, [.int .u64 s0, .int .u64 s1, .int .u64 s2, .int .u64 s3])], []⟩) (fun i => i ≤ 4 ∧ n < 2 ^ (64 * i)) (fun i => i) 4 ?_ ?_ ?_
  · simp only [ASt.keep, consIf, keepL, keepV, AV.isBot, List.contains_cons, List.contains_nil, Nat.reduceBEq, Bool.or_false, Bool.false_or, Bool.or_true, Bool.true_or, beq_self_eq_true, Bool.false_eq_true, ↓reduceIte, if_false, if_true]
    rfl
  · exact ⟨Nat.le_refl _, by unfold U at hn; omega⟩
  · rintro r i ⟨hi, hlt⟩ next
    have fin : limbsOf n = i → True := fun _ => trivial
    have fin : ∀ {σ : ASt}, look σ.tmps 2 = some (.int .i64 i) → limbsOf n = i → BodyPost (cf 16 [1, 2, 3, 12] (fun _ => [])) Try.f144.results.toList (.int .i64 (limbsOf n)) .ret σ := fun h1 h2 => by
      refine finOne ?_ (fun _ e => by cases e)
      show resOf _ _ [.tmp 2] = _
      rw [h2]
      simp only [resOf, resAll, resOne, resCons, resTup, resTmp, h1, AV.isImm, if_true]
    obtain rfl | rfl | rfl | rfl | rfl : i = 0 ∨ i = 1 ∨ i = 2 ∨ i = 3 ∨ i = 4 := by omega
    · simp only [go_sem, seval, Int.cast_ofNat_Int]
      exact fin rfl (limbs_eq hlt (.inl rfl))
    · simp only [go_sem, seval, Int.cast_ofNat_Int, wi0, wi1, wi2, wi3]
      refine ex_br (fun hc => ?_) (fun hc => ?_)
      · simp only [go_sem, seval, wi0, wi1, wi2, wi3]
        have hc : s0 = 0 := by simpa using hc
        exact next 0 _ ⟨by omega, by omega⟩ (by omega) rfl
      · have hc : s0 ≠ 0 := by simpa using hc
        simp only [go_sem, seval]
        exact fin rfl (limbs_eq hlt (.inr (by omega)))
    · simp only [go_sem, seval, Int.cast_ofNat_Int, wi0, wi1, wi2, wi3]
      refine ex_br (fun hc => ?_) (fun hc => ?_)
      · simp only [go_sem, seval, wi0, wi1, wi2, wi3]
        have hc : s1 = 0 := by simpa using hc
        exact next 1 _ ⟨by omega, by omega⟩ (by omega) rfl
      · have hc : s1 ≠ 0 := by simpa using hc
        simp only [go_sem, seval]
        exact fin rfl (limbs_eq hlt (.inr (by omega)))
    · simp only [go_sem, seval, Int.cast_ofNat_Int, wi0, wi1, wi2, wi3]
      refine ex_br (fun hc => ?_) (fun hc => ?_)
      · simp only [go_sem, seval, wi0, wi1, wi2, wi3]
        have hc : s2 = 0 := by simpa using hc
        exact next 2 _ ⟨by omega, by omega⟩ (by omega) rfl
      · have hc : s2 ≠ 0 := by simpa using hc
        simp only [go_sem, seval]
        exact fin rfl (limbs_eq hlt (.inr (by omega)))
    · simp only [go_sem, seval, Int.cast_ofNat_Int, wi0, wi1, wi2, wi3]
      refine ex_br (fun hc => ?_) (fun hc => ?_)
      · simp only [go_sem, seval, wi0, wi1, wi2, wi3]
        have hc : s3 = 0 := by simpa using hc
        exact next 3 _ ⟨by omega, by omega⟩ (by omega) rfl
      · have hc : s3 ≠ 0 := by simpa using hc
        simp only [go_sem, seval]
        exact fin rfl (limbs_eq hlt (.inr (by omega)))
theorem shr_nat (n k : Nat) (hk : k ≤ 64) : (n : Int).fdiv (2 ^ (min k 64)) = ((n / 2 ^ k : Nat) : Int) := by
  rw [show min k 64 = k from Nat.min_eq_left hk, Int.fdiv_eq_ediv_of_nonneg _ (Int.pow_nonneg (by decide))]
  norm_cast
theorem tab_at (x : Nat) (hx : x < 256) : ((([0, 1, 2, 2, 3, 3, 3, 3, 4, 4, 4, 4, 4, 4, 4, 4, 5, 5, 5, 5, 5, 5, 5, 5, 5, 5, 5, 5, 5, 5, 5, 5, 6, 6, 6, 6, 6, 6, 6, 6, 6, 6, 6, 6, 6, 6, 6, 6, 6, 6, 6, 6, 6, 6, 6, 6, 6, 6, 6, 6, 6, 6, 6, 6].append [7, 7, 7, 7, 7, 7, 7, 7, 7, 7, 7, 7, 7, 7, 7, 7, 7, 7, 7, 7, 7, 7, 7, 7, 7, 7, 7, 7, 7, 7, 7, 7, 7, 7, 7, 7, 7, 7, 7, 7, 7, 7, 7, 7, 7, 7, 7, 7, 7, 7, 7, 7, 7, 7, 7, 7, 7, 7, 7, 7, 7, 7, 7, 7]).append ([8, 8, 8, 8, 8, 8, 8, 8, 8, 8, 8, 8, 8, 8, 8, 8, 8, 8, 8, 8, 8, 8, 8, 8, 8, 8, 8, 8, 8, 8, 8, 8, 8, 8, 8, 8, 8, 8, 8, 8, 8, 8, 8, 8, 8, 8, 8, 8, 8, 8, 8, 8, 8, 8, 8, 8, 8, 8, 8, 8, 8, 8, 8, 8].append [8, 8, 8, 8, 8, 8, 8, 8, 8, 8, 8, 8, 8, 8, 8, 8, 8, 8, 8, 8, 8, 8, 8, 8, 8, 8, 8, 8, 8, 8, 8, 8, 8, 8, 8, 8, 8, 8, 8, 8, 8, 8, 8, 8, 8, 8, 8, 8, 8, 8, 8, 8, 8, 8, 8, 8, 8, 8, 8, 8, 8, 8, 8, 8])) : List UInt8)[x]? = some (UInt8.ofNat (bitsOf x)) := by
  have h : (List.range 256).all (fun x => ((([0, 1, 2, 2, 3, 3, 3, 3, 4, 4, 4, 4, 4, 4, 4, 4, 5, 5, 5, 5, 5, 5, 5, 5, 5, 5, 5, 5, 5, 5, 5, 5, 6, 6, 6, 6, 6, 6, 6, 6, 6, 6, 6, 6, 6, 6, 6, 6, 6, 6, 6, 6, 6, 6, 6, 6, 6, 6, 6, 6, 6, 6, 6, 6].append [7, 7, 7, 7, 7, 7, 7, 7, 7, 7, 7, 7, 7, 7, 7, 7, 7, 7, 7, 7, 7, 7, 7, 7, 7, 7, 7, 7, 7, 7, 7, 7, 7, 7, 7, 7, 7, 7, 7, 7, 7, 7, 7, 7, 7, 7, 7, 7, 7, 7, 7, 7, 7, 7, 7, 7, 7, 7, 7, 7, 7, 7, 7, 7]).append ([8, 8, 8, 8, 8, 8, 8, 8, 8, 8, 8, 8, 8, 8, 8, 8, 8, 8, 8, 8, 8, 8, 8, 8, 8, 8, 8, 8, 8, 8, 8, 8, 8, 8, 8, 8, 8, 8, 8, 8, 8, 8, 8, 8, 8, 8, 8, 8, 8, 8, 8, 8, 8, 8, 8, 8, 8, 8, 8, 8, 8, 8, 8, 8].append [8, 8, 8, 8, 8, 8, 8, 8, 8, 8, 8, 8, 8, 8, 8, 8, 8, 8, 8, 8, 8, 8, 8, 8, 8, 8, 8, 8, 8, 8, 8, 8, 8, 8, 8, 8, 8, 8, 8, 8, 8, 8, 8, 8, 8, 8, 8, 8, 8, 8, 8, 8, 8, 8, 8, 8, 8, 8, 8, 8, 8, 8, 8, 8])) : List UInt8)[x]? == some (UInt8.ofNat (bitsOf x))) = true := by kernel_rfl
  have := List.all_eq_true.1 h x (List.mem_range.2 hx)
  simpa using this
theorem tab_len : ((([0, 1, 2, 2, 3, 3, 3, 3, 4, 4, 4, 4, 4, 4, 4, 4, 5, 5, 5, 5, 5, 5, 5, 5, 5, 5, 5, 5, 5, 5, 5, 5, 6, 6, 6, 6, 6, 6, 6, 6, 6, 6, 6, 6, 6, 6, 6, 6, 6, 6, 6, 6, 6, 6, 6, 6, 6, 6, 6, 6, 6, 6, 6, 6].append [7, 7, 7, 7, 7, 7, 7, 7, 7, 7, 7, 7, 7, 7, 7, 7, 7, 7, 7, 7, 7, 7, 7, 7, 7, 7, 7, 7, 7, 7, 7, 7, 7, 7, 7, 7, 7, 7, 7, 7, 7, 7, 7, 7, 7, 7, 7, 7, 7, 7, 7, 7, 7, 7, 7, 7, 7, 7, 7, 7, 7, 7, 7, 7]).append ([8, 8, 8, 8, 8, 8, 8, 8, 8, 8, 8, 8, 8, 8, 8, 8, 8, 8, 8, 8, 8, 8, 8, 8, 8, 8, 8, 8, 8, 8, 8, 8, 8, 8, 8, 8, 8, 8, 8, 8, 8, 8, 8, 8, 8, 8, 8, 8, 8, 8, 8, 8, 8, 8, 8, 8, 8, 8, 8, 8, 8, 8, 8, 8].append [8, 8, 8, 8, 8, 8, 8, 8, 8, 8, 8, 8, 8, 8, 8, 8, 8, 8, 8, 8, 8, 8, 8, 8, 8, 8, 8, 8, 8, 8, 8, 8, 8, 8, 8, 8, 8, 8, 8, 8, 8, 8, 8, 8, 8, 8, 8, 8, 8, 8, 8, 8, 8, 8, 8, 8, 8, 8, 8, 8, 8, 8, 8, 8])) : List UInt8).length = 256 := by kernel_rfl
theorem bits_8 {n : Nat} (h : n < 256) : bitsOf n ≤ 8 := (bits_le n 8).2 h
theorem wiK (k : Nat) (h : k ≤ 1000) : IntKind.i64.wrap (k : Int) = (k : Int) := wi64 (by omega) (by omega)
theorem wi64k : IntKind.i64.wrap 64 = 64 := by decide
theorem wi128k : IntKind.i64.wrap 128 = 128 := by decide
theorem wi192k : IntKind.i64.wrap 192 = 192 := by decide
theorem w8_bits {x : Nat} (h : x < 256) : IntKind.i64.wrap ((UInt8.ofNat (bitsOf x)).toNat : Int) = (bitsOf x : Int) := by
  have := bits_8 h
  rw [show (UInt8.ofNat (bitsOf x)).toNat = bitsOf x by rw [UInt8.toNat_ofNat']; omega]
  exact wi64 (by omega) (by omega)
theorem wi8 : IntKind.i64.wrap 8 = 8 := by decide
theorem wi16 : IntKind.i64.wrap 16 = 16 := by decide
theorem wi24 : IntKind.i64.wrap 24 = 24 := by decide
theorem wi40 : IntKind.i64.wrap 40 = 40 := by decide
theorem wi48 : IntKind.i64.wrap 48 = 48 := by decide
theorem wi56 : IntKind.i64.wrap 56 = 56 := by decide
theorem bits_ge {n k : Nat} (h : 2 ^ k ≤ n) : k < bitsOf n := by
  have := bits_le n k
  omega
theorem c_Len64 (n : Nat) (hn : n < 18446744073709551616) : Contract Try.prog 145 [.int .u64 n] (.int .i64 (bitsOf n)) := by
  have d32 := bits_div n 32
  have d16 := bits_div n 16
  have d8 := bits_div n 8
  have d3216 := bits_div (n / 2 ^ 32) 16
  have d328 := bits_div (n / 2 ^ 32) 8
  have d168 := bits_div (n / 2 ^ 16) 8
  have d32168 := bits_div (n / 2 ^ 32 / 2 ^ 16) 8
  refine contract_of (C := cf 25 [0, 2, 4, 8, 14] (fun _ => [])) (cf_ok _ _ _) (fn := Try.f145) Try.func145 (by kernel_rfl) rfl (by kernel_rfl) (by simp [cf]) (plain1 (.int _ _)) (by decide) (noCell (by kernel_rfl)) ?_
  simp only [go_sem, seval]
  have s32 := shr_nat n 32 (by decide)
  have s16 := shr_nat n 16 (by decide)
  have s8 := shr_nat n 8 (by decide)
  have s3216 := shr_nat (n / 2 ^ 32) 16 (by decide)
  have s328 := shr_nat (n / 2 ^ 32) 8 (by decide)
  have s168 := shr_nat (n / 2 ^ 16) 8 (by decide)
  have s32168 := shr_nat (n / 2 ^ 32 / 2 ^ 16) 8 (by decide)
  refine ex_br (fun e1 => ?_) (fun e1 => ?_)
  · simp only [decide_eq_true_eq, decide_eq_false_iff_not] at e1
    simp only [go_sem, seval, s32, s16, s8, s3216, s328, s168, s32168, wi8, wi16, wi24, wi40, wi48, wi56]
    refine ex_br (fun e2 => ?_) (fun e2 => ?_)
    · simp only [decide_eq_true_eq, decide_eq_false_iff_not] at e2
      simp only [go_sem, seval, s32, s16, s8, s3216, s328, s168, s32168, wi8, wi16, wi24, wi40, wi48, wi56]
      refine ex_br (fun e3 => ?_) (fun e3 => ?_)
      · simp only [decide_eq_true_eq, decide_eq_false_iff_not] at e3
        have hx : n / 2 ^ 32 / 2 ^ 16 / 2 ^ 8 < 256 := by omega
        have wx : IntKind.u8.wrap ((n / 2 ^ 32 / 2 ^ 16 / 2 ^ 8 : Nat) : Int) = ((n / 2 ^ 32 / 2 ^ 16 / 2 ^ 8 : Nat) : Int) := wu8 (by omega) (by omega)
        have hb := bits_ge (n := n) (k := 56) (by omega)
        have hb2 := bits_8 hx
        have hfin : IntKind.i64.wrap ((56 : Int) + (bitsOf (n / 2 ^ 32 / 2 ^ 16 / 2 ^ 8) : Int)) = (bitsOf n : Int) := by rw [wi64 (by omega) (by omega)]; omega
        simp only [go_sem, seval, s32, s16, s8, s3216, s328, s168, s32168, wi8, wi16, wi24, wi40, wi48, wi56, wx, Int.toNat_natCast, tab_len, tab_at _ hx, w8_bits hx, hfin, Int.zero_add]
        refine ⟨⟨by omega, by omega⟩, ?_⟩
        refine finOne ?_ (fun _ e => by cases e)
        show resOf _ _ [.tmp 2] = _
        simp only [go_sem, seval]
      · simp only [decide_eq_true_eq, decide_eq_false_iff_not] at e3
        have hx : n / 2 ^ 32 / 2 ^ 16 < 256 := by omega
        have wx : IntKind.u8.wrap ((n / 2 ^ 32 / 2 ^ 16 : Nat) : Int) = ((n / 2 ^ 32 / 2 ^ 16 : Nat) : Int) := wu8 (by omega) (by omega)
        have hb := bits_ge (n := n) (k := 48) (by omega)
        have hb2 := bits_8 hx
        have hfin : IntKind.i64.wrap ((48 : Int) + (bitsOf (n / 2 ^ 32 / 2 ^ 16) : Int)) = (bitsOf n : Int) := by rw [wi64 (by omega) (by omega)]; omega
        simp only [go_sem, seval, s32, s16, s8, s3216, s328, s168, s32168, wi8, wi16, wi24, wi40, wi48, wi56, wx, Int.toNat_natCast, tab_len, tab_at _ hx, w8_bits hx, hfin, Int.zero_add]
        refine ⟨⟨by omega, by omega⟩, ?_⟩
        refine finOne ?_ (fun _ e => by cases e)
        show resOf _ _ [.tmp 2] = _
        simp only [go_sem, seval]
    · simp only [decide_eq_true_eq, decide_eq_false_iff_not] at e2
      simp only [go_sem, seval, s32, s16, s8, s3216, s328, s168, s32168, wi8, wi16, wi24, wi40, wi48, wi56]
      refine ex_br (fun e3 => ?_) (fun e3 => ?_)
      · simp only [decide_eq_true_eq, decide_eq_false_iff_not] at e3
        have hx : n / 2 ^ 32 / 2 ^ 8 < 256 := by omega
        have wx : IntKind.u8.wrap ((n / 2 ^ 32 / 2 ^ 8 : Nat) : Int) = ((n / 2 ^ 32 / 2 ^ 8 : Nat) : Int) := wu8 (by omega) (by omega)
        have hb := bits_ge (n := n) (k := 40) (by omega)
        have hb2 := bits_8 hx
        have hfin : IntKind.i64.wrap ((40 : Int) + (bitsOf (n / 2 ^ 32 / 2 ^ 8) : Int)) = (bitsOf n : Int) := by rw [wi64 (by omega) (by omega)]; omega
        simp only [go_sem, seval, s32, s16, s8, s3216, s328, s168, s32168, wi8, wi16, wi24, wi40, wi48, wi56, wx, Int.toNat_natCast, tab_len, tab_at _ hx, w8_bits hx, hfin, Int.zero_add]
        refine ⟨⟨by omega, by omega⟩, ?_⟩
        refine finOne ?_ (fun _ e => by cases e)
        show resOf _ _ [.tmp 2] = _
        simp only [go_sem, seval]
      · simp only [decide_eq_true_eq, decide_eq_false_iff_not] at e3
        have hx : n / 2 ^ 32 < 256 := by omega
        have wx : IntKind.u8.wrap ((n / 2 ^ 32 : Nat) : Int) = ((n / 2 ^ 32 : Nat) : Int) := wu8 (by omega) (by omega)
        have hb := bits_ge (n := n) (k := 32) (by omega)
        have hb2 := bits_8 hx
        have hfin : IntKind.i64.wrap ((32 : Int) + (bitsOf (n / 2 ^ 32) : Int)) = (bitsOf n : Int) := by rw [wi64 (by omega) (by omega)]; omega
        simp only [go_sem, seval, s32, s16, s8, s3216, s328, s168, s32168, wi8, wi16, wi24, wi40, wi48, wi56, wx, Int.toNat_natCast, tab_len, tab_at _ hx, w8_bits hx, hfin, Int.zero_add]
        refine ⟨⟨by omega, by omega⟩, ?_⟩
        refine finOne ?_ (fun _ e => by cases e)
        show resOf _ _ [.tmp 2] = _
        simp only [go_sem, seval]
  · simp only [decide_eq_true_eq, decide_eq_false_iff_not] at e1
    simp only [go_sem, seval, s32, s16, s8, s3216, s328, s168, s32168, wi8, wi16, wi24, wi40, wi48, wi56]
    refine ex_br (fun e2 => ?_) (fun e2 => ?_)
    · simp only [decide_eq_true_eq, decide_eq_false_iff_not] at e2
      simp only [go_sem, seval, s32, s16, s8, s3216, s328, s168, s32168, wi8, wi16, wi24, wi40, wi48, wi56]
      refine ex_br (fun e3 => ?_) (fun e3 => ?_)
      · simp only [decide_eq_true_eq, decide_eq_false_iff_not] at e3
        have hx : n / 2 ^ 16 / 2 ^ 8 < 256 := by omega
        have wx : IntKind.u8.wrap ((n / 2 ^ 16 / 2 ^ 8 : Nat) : Int) = ((n / 2 ^ 16 / 2 ^ 8 : Nat) : Int) := wu8 (by omega) (by omega)
        have hb := bits_ge (n := n) (k := 24) (by omega)
        have hb2 := bits_8 hx
        have hfin : IntKind.i64.wrap ((24 : Int) + (bitsOf (n / 2 ^ 16 / 2 ^ 8) : Int)) = (bitsOf n : Int) := by rw [wi64 (by omega) (by omega)]; omega
        simp only [go_sem, seval, s32, s16, s8, s3216, s328, s168, s32168, wi8, wi16, wi24, wi40, wi48, wi56, wx, Int.toNat_natCast, tab_len, tab_at _ hx, w8_bits hx, hfin, Int.zero_add]
        refine ⟨⟨by omega, by omega⟩, ?_⟩
        refine finOne ?_ (fun _ e => by cases e)
        show resOf _ _ [.tmp 2] = _
        simp only [go_sem, seval]
      · simp only [decide_eq_true_eq, decide_eq_false_iff_not] at e3
        have hx : n / 2 ^ 16 < 256 := by omega
        have wx : IntKind.u8.wrap ((n / 2 ^ 16 : Nat) : Int) = ((n / 2 ^ 16 : Nat) : Int) := wu8 (by omega) (by omega)
        have hb := bits_ge (n := n) (k := 16) (by omega)
        have hb2 := bits_8 hx
        have hfin : IntKind.i64.wrap ((16 : Int) + (bitsOf (n / 2 ^ 16) : Int)) = (bitsOf n : Int) := by rw [wi64 (by omega) (by omega)]; omega
        simp only [go_sem, seval, s32, s16, s8, s3216, s328, s168, s32168, wi8, wi16, wi24, wi40, wi48, wi56, wx, Int.toNat_natCast, tab_len, tab_at _ hx, w8_bits hx, hfin, Int.zero_add]
        refine ⟨⟨by omega, by omega⟩, ?_⟩
        refine finOne ?_ (fun _ e => by cases e)
        show resOf _ _ [.tmp 2] = _
        simp only [go_sem, seval]
    · simp only [decide_eq_true_eq, decide_eq_false_iff_not] at e2
      simp only [go_sem, seval, s32, s16, s8, s3216, s328, s168, s32168, wi8, wi16, wi24, wi40, wi48, wi56]
      refine ex_br (fun e3 => ?_) (fun e3 => ?_)
      · simp only [decide_eq_true_eq, decide_eq_false_iff_not] at e3
        have hx : n / 2 ^ 8 < 256 := by omega
        have wx : IntKind.u8.wrap ((n / 2 ^ 8 : Nat) : Int) = ((n / 2 ^ 8 : Nat) : Int) := wu8 (by omega) (by omega)
        have hb := bits_ge (n := n) (k := 8) (by omega)
        have hb2 := bits_8 hx
        have hfin : IntKind.i64.wrap ((8 : Int) + (bitsOf (n / 2 ^ 8) : Int)) = (bitsOf n : Int) := by rw [wi64 (by omega) (by omega)]; omega
        simp only [go_sem, seval, s32, s16, s8, s3216, s328, s168, s32168, wi8, wi16, wi24, wi40, wi48, wi56, wx, Int.toNat_natCast, tab_len, tab_at _ hx, w8_bits hx, hfin, Int.zero_add]
        refine ⟨⟨by omega, by omega⟩, ?_⟩
        refine finOne ?_ (fun _ e => by cases e)
        show resOf _ _ [.tmp 2] = _
        simp only [go_sem, seval]
      · simp only [decide_eq_true_eq, decide_eq_false_iff_not] at e3
        have hx : n < 256 := by omega
        have wx : IntKind.u8.wrap ((n : Nat) : Int) = ((n : Nat) : Int) := wu8 (by omega) (by omega)
        have hb2 := bits_8 hx
        have hfin : IntKind.i64.wrap ((0 : Int) + (bitsOf (n) : Int)) = (bitsOf n : Int) := by rw [wi64 (by omega) (by omega)]; omega
        rw [Int.zero_add] at hfin
        simp only [go_sem, seval, s32, s16, s8, s3216, s328, s168, s32168, wi8, wi16, wi24, wi40, wi48, wi56, wx, Int.toNat_natCast, tab_len, tab_at _ hx, w8_bits hx, hfin, Int.zero_add]
        refine ⟨⟨by omega, by omega⟩, ?_⟩
        refine finOne ?_ (fun _ e => by cases e)
        show resOf _ _ [.tmp 2] = _
        simp only [go_sem, seval]
end Go.Proofs.Ytpepfhbfooeoeaa.VA
end
section
namespace Go.Proofs.Ytpepfhbfooeoeaa.VA
set_option maxRecDepth 10000
set_option maxHeartbeats 8000000

structure TxD where
  frm : Int
  nonce : Int
  tip : Nat
  cap : Nat
  bcap : Nat
  value : Nat
  gas : Int
  hashes : List Int
  blobs : List (List UInt8)
def TxD.cells (t : TxD) : List AV := [.int .i64 t.frm, .int .i64 t.nonce, .int .u64 (lim t.tip 0), .int .u64 (lim t.tip 1), .int .u64 (lim t.tip 2), .int .u64 (lim t.tip 3),
  .int .u64 (lim t.cap 0), .int .u64 (lim t.cap 1), .int .u64 (lim t.cap 2), .int .u64 (lim t.cap 3), .int .u64 (lim t.bcap 0), .int .u64 (lim t.bcap 1), .int .u64 (lim t.bcap 2), .int .u64 (lim t.bcap 3),
  .int .u64 (lim t.value 0), .int .u64 (lim t.value 1), .int .u64 (lim t.value 2), .int .u64 (lim t.value 3), .int .i64 t.gas, ints .u64 t.hashes, strs t.blobs]
def TxD.av (t : TxD) : AV := .agg t.cells
theorem TxD.plain (t : TxD) : Plain t.av := .agg _ fun c hc => by
  simp only [TxD.cells, List.mem_cons, List.not_mem_nil, or_false] at hc
  rcases hc with rfl | rfl | rfl | rfl | rfl | rfl | rfl | rfl | rfl | rfl | rfl | rfl | rfl | rfl | rfl | rfl | rfl | rfl | rfl | rfl | rfl <;> first | exact .int _ _ | exact ints_plain _ _ | exact strs_plain _
/-- What data of a transaction may be at all. -/
structure TxD.ok (t : TxD) : Prop where
  frm : -9223372036854775808 ≤ t.frm ∧ t.frm ≤ 9223372036854775807
  nonce : -9223372036854775808 ≤ t.nonce ∧ t.nonce ≤ 9223372036854775807
  gas : -9223372036854775808 ≤ t.gas ∧ t.gas ≤ 9223372036854775807
  tip : t.tip < U
  cap : t.cap < U
  bcap : t.bcap < U
  value : t.value < U
  hashes : t.hashes.length * 8 ≤ reachBytes
  blobs : t.blobs.length * 16 ≤ reachBytes
  blob : ∀ b ∈ t.blobs, b.length ≤ reachBytes

def costOf (t : TxD) : Nat := t.cap * t.gas.toNat + t.bcap * (131072 * t.blobs.length) + t.value
theorem c_MulS (n g : Nat) (hn : n < U) (hg : g < 18446744073709551616) : Contract Try.prog 133 [.agg [.int .u64 (lim n 0), .int .u64 (lim n 1), .int .u64 (lim n 2), .int .u64 (lim n 3)], .agg [.int .u64 (g : Int), .int .u64 0, .int .u64 0, .int .u64 0]] (.tup [u (if n * g < U then n * g else 0), .int .i64 (if n * g < U then 0 else 8)]) := by
  rw [← u_small g hg]
  exact c_u256_Mul n g hn (by unfold U; omega)

theorem eq_of_bne {x : Int} (h : (x != 0) = false) : x = 0 := by simpa using h
theorem res_cases {f : FuncId} {args : List AV} (A : Nat) (h : Contract Try.prog f args (.tup [u (if A < U then A else 0), .int .i64 (if A < U then 0 else 8)])) :
    ∃ (x : Nat) (e : Int), x < U ∧ (e = 0 ∧ x = A ∨ e = 8 ∧ U ≤ A) ∧ Contract Try.prog f args (.tup [u x, .int .i64 e]) := by
  refine ⟨_, _, ?_, ?_, h⟩
  · split
    · assumption
    · decide
  · by_cases hA : A < U
    · rw [if_pos hA, if_pos hA]; exact .inl ⟨rfl, rfl⟩
    · rw [if_neg hA, if_neg hA]; exact .inr ⟨rfl, by omega⟩
theorem c_tx_cost (t : TxD) (h : t.ok) (hg : 0 ≤ t.gas ∧ t.gas ≤ 1073741824) (hb : 1 ≤ t.blobs.length ∧ t.blobs.length ≤ 4) :
    Contract Try.prog 114 [t.av] (.tup [u (if costOf t < U then costOf t else 0), .bool (decide (costOf t < U))]) := by
  refine contract_of (C := cf 69 [1, 2, 3, 4, 5, 6, 7, 8, 9, 10, 11, 13, 22, 60, 61, 62, 65] (fun _ => [])) (cf_ok _ _ _) (fn := Try.f114) Try.func114 (by kernel_rfl) rfl (by kernel_rfl) (by simp [cf]) (plain1 t.plain) (by decide) (cellsOk (by kernel_rfl)) ?_
  have g1 : gasOf (t.blobs.length : Int) = ((131072 * t.blobs.length : Nat) : Int) := by unfold gasOf; rw [if_neg (by omega)]; omega
  have g2 : gasErr (t.blobs.length : Int) = 0 := by unfold gasErr; rw [if_neg (by omega)]
  have w1 : IntKind.u64.wrap t.gas = ((t.gas.toNat : Nat) : Int) := by rw [wu64 (by omega) (by omega)]; omega
  have w2 : IntKind.u64.wrap ((131072 * t.blobs.length : Nat) : Int) = ((131072 * t.blobs.length : Nat) : Int) := wu64 (by omega) (by omega)
  have c1 := c_MulS t.cap t.gas.toNat h.cap (by omega)
  have c2 := c_MulS t.bcap (131072 * t.blobs.length) h.bcap (by omega)
  obtain ⟨A, hA⟩ : ∃ A, A = t.cap * t.gas.toNat := ⟨_, rfl⟩
  obtain ⟨B, hB⟩ : ∃ B, B = t.bcap * (131072 * t.blobs.length) := ⟨_, rfl⟩
  rw [← hA] at c1
  rw [← hB] at c2
  have hcost : costOf t = A + B + t.value := by rw [hA, hB]; rfl
  rw [hcost]
  obtain ⟨x, e1, hx, hx2, c1'⟩ : ∃ (x : Nat) (e1 : Int), x < U ∧ (e1 = 0 ∧ x = A ∨ e1 = 8 ∧ U ≤ A) ∧ Contract Try.prog 133 [.agg [.int .u64 (lim t.cap 0), .int .u64 (lim t.cap 1), .int .u64 (lim t.cap 2), .int .u64 (lim t.cap 3)], .agg [.int .u64 (t.gas.toNat : Int), .int .u64 0, .int .u64 0, .int .u64 0]] (.tup [u x, .int .i64 e1]) := res_cases A c1
  obtain ⟨y, e2, hy, hy2, c2'⟩ : ∃ (x : Nat) (e1 : Int), x < U ∧ (e1 = 0 ∧ x = B ∨ e1 = 8 ∧ U ≤ B) ∧ Contract Try.prog 133 [.agg [.int .u64 (lim t.bcap 0), .int .u64 (lim t.bcap 1), .int .u64 (lim t.bcap 2), .int .u64 (lim t.bcap 3)], .agg [.int .u64 ((131072 * t.blobs.length : Nat) : Int), .int .u64 0, .int .u64 0, .int .u64 0]] (.tup [u x, .int .i64 e1]) := res_cases B c2
  obtain ⟨z, e3, hz, hz2, c3⟩ : ∃ (z : Nat) (e : Int), z < U ∧ (e = 0 ∧ z = x + y ∨ e = 8 ∧ U ≤ x + y) ∧ Contract Try.prog 101 [u x, u y] (.tup [u z, .int .i64 e]) := res_cases (x + y) (c_u256_Add x y hx hy)
  obtain ⟨v, e4, hv, hv2, c4⟩ : ∃ (v : Nat) (e : Int), v < U ∧ (e = 0 ∧ v = z + t.value ∨ e = 8 ∧ U ≤ z + t.value) ∧ Contract Try.prog 101 [u z, u t.value] (.tup [u v, .int .i64 e]) := res_cases (z + t.value) (c_u256_Add z t.value hz h.value)
  have hz4 : u 0 = _ := u_small 0 (by decide)
  have fin : (e1 = 0 ∧ e2 = 0 ∧ e3 = 0 ∧ e4 = 0 → A + B + t.value < U ∧ v = A + B + t.value) ∧ (e1 ≠ 0 ∨ e2 ≠ 0 ∨ e3 ≠ 0 ∨ e4 ≠ 0 → ¬ A + B + t.value < U) := by
    clear c1 c2 c1' c2' c3 c4 hA hB hcost hz4
    constructor
    · rintro ⟨q1, q2, q3, q4⟩; omega
    · intro q; omega
  clear c1 c2 hA hB hx2 hy2 hz2 hv2 hcost
  generalize A + B + t.value = T at fin
  simp only [go_sem, ↓reduceIte, Nat.reduceLT, Nat.reduceLeDiff, Nat.reduceAdd, Nat.reduceSub, Nat.reduceMul, Nat.reduceEqDiff, Nat.reduceBEq, Nat.reduceMod, Nat.reduceDiv, Int.reduceToNat, reduceCtorEq, Int.reduceLT, Int.reduceLE, Int.reduceGT, Int.reduceGE, Int.reduceAdd, Int.reduceSub, Int.reduceMul, Int.reduceNeg, Int.reduceEq, Int.reduceNe, Int.reduceBNe, Int.reduceBEq, Int.reduceDiv, TxD.av, TxD.cells, ints, strs, List.length_map]
  refine ex_call (c_blob_Gas _) ?_
  simp only [go_sem, ↓reduceIte, Nat.reduceLT, Nat.reduceLeDiff, Nat.reduceAdd, Nat.reduceSub, Nat.reduceMul, Nat.reduceEqDiff, Nat.reduceBEq, Nat.reduceMod, Nat.reduceDiv, Int.reduceToNat, reduceCtorEq, Int.reduceLT, Int.reduceLE, Int.reduceGT, Int.reduceGE, Int.reduceAdd, Int.reduceSub, Int.reduceMul, Int.reduceNeg, Int.reduceEq, Int.reduceNe, Int.reduceBNe, Int.reduceBEq, Int.reduceDiv, g1, g2, w1, w2]
  refine ex_call c1' ?_
  simp only [go_sem, ↓reduceIte, Nat.reduceLT, Nat.reduceLeDiff, Nat.reduceAdd, Nat.reduceSub, Nat.reduceMul, Nat.reduceEqDiff, Nat.reduceBEq, Nat.reduceMod, Nat.reduceDiv, Int.reduceToNat, reduceCtorEq, Int.reduceLT, Int.reduceLE, Int.reduceGT, Int.reduceGE, Int.reduceAdd, Int.reduceSub, Int.reduceMul, Int.reduceNeg, Int.reduceEq, Int.reduceNe, Int.reduceBNe, Int.reduceBEq, Int.reduceDiv, u, w1, w2]
  refine ex_call c2' ?_
  simp only [go_sem, ↓reduceIte, Nat.reduceLT, Nat.reduceLeDiff, Nat.reduceAdd, Nat.reduceSub, Nat.reduceMul, Nat.reduceEqDiff, Nat.reduceBEq, Nat.reduceMod, Nat.reduceDiv, Int.reduceToNat, reduceCtorEq, Int.reduceLT, Int.reduceLE, Int.reduceGT, Int.reduceGE, Int.reduceAdd, Int.reduceSub, Int.reduceMul, Int.reduceNeg, Int.reduceEq, Int.reduceNe, Int.reduceBNe, Int.reduceBEq, Int.reduceDiv, u, w1, w2]
  refine ex_call (by exact c3) ?_
  simp only [go_sem, ↓reduceIte, Nat.reduceLT, Nat.reduceLeDiff, Nat.reduceAdd, Nat.reduceSub, Nat.reduceMul, Nat.reduceEqDiff, Nat.reduceBEq, Nat.reduceMod, Nat.reduceDiv, Int.reduceToNat, reduceCtorEq, Int.reduceLT, Int.reduceLE, Int.reduceGT, Int.reduceGE, Int.reduceAdd, Int.reduceSub, Int.reduceMul, Int.reduceNeg, Int.reduceEq, Int.reduceNe, Int.reduceBNe, Int.reduceBEq, Int.reduceDiv, u]
  refine ex_call (by exact c4) ?_
  simp only [go_sem, ↓reduceIte, Nat.reduceLT, Nat.reduceLeDiff, Nat.reduceAdd, Nat.reduceSub, Nat.reduceMul, Nat.reduceEqDiff, Nat.reduceBEq, Nat.reduceMod, Nat.reduceDiv, Int.reduceToNat, reduceCtorEq, Int.reduceLT, Int.reduceLE, Int.reduceGT, Int.reduceGE, Int.reduceAdd, Int.reduceSub, Int.reduceMul, Int.reduceNeg, Int.reduceEq, Int.reduceNe, Int.reduceBNe, Int.reduceBEq, Int.reduceDiv, u]
  refine ex_loop [2, 60, 61] 5 ?_
  iterate 4
    simp only [go_sem, ↓reduceIte, Nat.reduceLT, Nat.reduceLeDiff, Nat.reduceAdd, Nat.reduceSub, Nat.reduceMul, Nat.reduceEqDiff, Nat.reduceBEq, Nat.reduceMod, Nat.reduceDiv, Int.reduceToNat, reduceCtorEq, Int.reduceLT, Int.reduceLE, Int.reduceGT, Int.reduceGE, Int.reduceAdd, Int.reduceSub, Int.reduceMul, Int.reduceNeg, Int.reduceEq, Int.reduceNe, Int.reduceBNe, Int.reduceBEq, Int.reduceDiv, ex_round, Int.cast_ofNat_Int, wi64]
    refine ex_br (fun h => ?_) (fun h => ?_)
    · have hn : ¬ T < U := fin.2 (by simp only [bne_iff_ne] at h; simp only [h, ne_eq, not_false_eq_true, true_or, or_true])
      rw [if_neg hn, decide_eq_false hn]
      simp only [go_sem, ↓reduceIte, Nat.reduceLT, Nat.reduceLeDiff, Nat.reduceAdd, Nat.reduceSub, Nat.reduceMul, Nat.reduceEqDiff, Nat.reduceBEq, Nat.reduceMod, Nat.reduceDiv, Int.reduceToNat, reduceCtorEq, Int.reduceLT, Int.reduceLE, Int.reduceGT, Int.reduceGE, Int.reduceAdd, Int.reduceSub, Int.reduceMul, Int.reduceNeg, Int.reduceEq, Int.reduceNe, Int.reduceBNe, Int.reduceBEq, Int.reduceDiv]
      refine finTup ?_
      show resOf _ _ [.cell 2 25, .tmp 3] = _
      simp only [go_sem, ↓reduceIte, Nat.reduceLT, Nat.reduceLeDiff, Nat.reduceAdd, Nat.reduceSub, Nat.reduceMul, Nat.reduceEqDiff, Nat.reduceBEq, Nat.reduceMod, Nat.reduceDiv, Int.reduceToNat, reduceCtorEq, Int.reduceLT, Int.reduceLE, Int.reduceGT, Int.reduceGE, Int.reduceAdd, Int.reduceSub, Int.reduceMul, Int.reduceNeg, Int.reduceEq, Int.reduceNe, Int.reduceBNe, Int.reduceBEq, Int.reduceDiv]
      try rfl
    have h := eq_of_bne h
  obtain ⟨f1, f2⟩ := fin.1 (by refine ⟨?_, ?_, ?_, ?_⟩ <;> assumption)
  rw [if_pos f1, decide_eq_true f1, ← f2]
  simp only [go_sem, ↓reduceIte, Nat.reduceLT, Nat.reduceLeDiff, Nat.reduceAdd, Nat.reduceSub, Nat.reduceMul, Nat.reduceEqDiff, Nat.reduceBEq, Nat.reduceMod, Nat.reduceDiv, Int.reduceToNat, reduceCtorEq, Int.reduceLT, Int.reduceLE, Int.reduceGT, Int.reduceGE, Int.reduceAdd, Int.reduceSub, Int.reduceMul, Int.reduceNeg, Int.reduceEq, Int.reduceNe, Int.reduceBNe, Int.reduceBEq, Int.reduceDiv, ex_round, Int.cast_ofNat_Int, wi64]
  refine finTup ?_
  show resOf _ _ [.cell 2 25, .tmp 3] = _
  simp only [go_sem, ↓reduceIte, Nat.reduceLT, Nat.reduceLeDiff, Nat.reduceAdd, Nat.reduceSub, Nat.reduceMul, Nat.reduceEqDiff, Nat.reduceBEq, Nat.reduceMod, Nat.reduceDiv, Int.reduceToNat, reduceCtorEq, Int.reduceLT, Int.reduceLE, Int.reduceGT, Int.reduceGE, Int.reduceAdd, Int.reduceSub, Int.reduceMul, Int.reduceNeg, Int.reduceEq, Int.reduceNe, Int.reduceBNe, Int.reduceBEq, Int.reduceDiv]
  try rfl

/-! The page's own answer. -/
theorem res_casesB {f : FuncId} {args : List AV} (A : Nat) (h : Contract Try.prog f args (.tup [u (if A < U then A else 0), .bool (decide (A < U))])) :
    ∃ (x : Nat) (e : Bool), x < U ∧ (e = true ∧ x = A ∧ A < U ∨ e = false ∧ U ≤ A) ∧ (e = false → x = 0) ∧ Contract Try.prog f args (.tup [u x, .bool e]) := by
  refine ⟨_, _, ?_, ?_, fun e => if_neg (of_decide_eq_false e), h⟩
  · split
    · assumption
    · decide
  · by_cases hA : A < U
    · rw [if_pos hA, decide_eq_true hA]; exact .inl ⟨rfl, rfl, hA⟩
    · rw [if_neg hA, decide_eq_false hA]; exact .inr ⟨rfl, by omega⟩
theorem c_ref1_OfL (g : Nat) (hg : g ≤ 9223372036854775807) : Contract Try.prog 118 [.int .i64 g] (.agg [.int .u64 (g : Int), .int .u64 0, .int .u64 0, .int .u64 0]) := by
  have w : IntKind.u64.wrap (g : Int) = g := wu64 (by omega) (by omega)
  refine contract_of (C := cf 6 [0, 2] (fun _ => [])) (cf_ok _ _ _) (fn := Try.f118) Try.func118 (by kernel_rfl) rfl (by kernel_rfl) (by simp [cf]) (plain1 (.int _ _)) (by decide) (cellsOk (by kernel_rfl)) ?_
  simp only [go_sem, ↓reduceIte, Nat.reduceLT, Nat.reduceLeDiff, Nat.reduceAdd, Nat.reduceSub, Nat.reduceMul, Nat.reduceEqDiff, Nat.reduceBEq, Nat.reduceMod, Nat.reduceDiv, Int.reduceToNat, reduceCtorEq, Int.reduceLT, Int.reduceLE, Int.reduceGT, Int.reduceGE, Int.reduceAdd, Int.reduceSub, Int.reduceMul, Int.reduceNeg, Int.reduceEq, Int.reduceNe, Int.reduceBNe, Int.reduceBEq, Int.reduceDiv, w]
  refine finOne ?_ (fun _ e => by cases e)
  show resOf _ _ [.cell 2 25] = _
  simp only [go_sem, ↓reduceIte, Nat.reduceLT, Nat.reduceLeDiff, Nat.reduceAdd, Nat.reduceSub, Nat.reduceMul, Nat.reduceEqDiff, Nat.reduceBEq, Nat.reduceMod, Nat.reduceDiv, Int.reduceToNat, reduceCtorEq, Int.reduceLT, Int.reduceLE, Int.reduceGT, Int.reduceGE, Int.reduceAdd, Int.reduceSub, Int.reduceMul, Int.reduceNeg, Int.reduceEq, Int.reduceNe, Int.reduceBNe, Int.reduceBEq, Int.reduceDiv]
theorem c_rMulS (n g : Nat) (hn : n < U) (hg : g < 18446744073709551616) : Contract Try.prog 117 [.agg [.int .u64 (lim n 0), .int .u64 (lim n 1), .int .u64 (lim n 2), .int .u64 (lim n 3)], .agg [.int .u64 (g : Int), .int .u64 0, .int .u64 0, .int .u64 0]] (.tup [u (if n * g < U then n * g else 0), .bool (decide (n * g < U))]) := by
  rw [← u_small g hg]
  exact c_ref1_Mul n g hn (by unfold U; omega)
theorem c_ref7_Cost (t : TxD) (h : t.ok) (hg : 0 ≤ t.gas ∧ t.gas ≤ 1073741824) (hb : t.blobs.length ≤ 4) :
    Contract Try.prog 87 [t.av] (.tup [u (if costOf t < U then costOf t else 0), .bool (decide (costOf t < U))]) := by
  refine contract_of (C := cf 52 [1, 2, 3, 4, 5, 6, 7, 8, 9, 35, 44] (fun _ => [])) (cf_ok _ _ _) (fn := Try.f87) Try.func87 (by kernel_rfl) rfl (by kernel_rfl) (by simp [cf]) (plain1 t.plain) (by decide) (cellsOk (by kernel_rfl)) ?_
  have w1 : AV.int IntKind.i64 t.gas = .int .i64 ((t.gas.toNat : Nat) : Int) := by congr 1; omega
  have w2 : IntKind.i64.wrap (131072 * (t.blobs.length : Int)) = ((131072 * t.blobs.length : Nat) : Int) := by rw [wi64 (by omega) (by omega)]; omega
  have c1 := c_rMulS t.cap t.gas.toNat h.cap (by omega)
  have c2 := c_rMulS t.bcap (131072 * t.blobs.length) h.bcap (by omega)
  have o1 := c_ref1_OfL t.gas.toNat (by omega)
  have o2 := c_ref1_OfL (131072 * t.blobs.length) (by omega)
  obtain ⟨A, hA⟩ : ∃ A, A = t.cap * t.gas.toNat := ⟨_, rfl⟩
  obtain ⟨B, hB⟩ : ∃ B, B = t.bcap * (131072 * t.blobs.length) := ⟨_, rfl⟩
  rw [← hA] at c1
  rw [← hB] at c2
  have hcost : costOf t = A + B + t.value := by rw [hA, hB]; rfl
  rw [hcost]
  obtain ⟨x, e1, hx, hx2, _, c1'⟩ := res_casesB A c1
  obtain ⟨y, e2, hy, hy2, _, c2'⟩ := res_casesB B c2
  obtain ⟨z, e3, hz, hz2, _, c3⟩ := res_casesB (x + y) (c_ref1_Add x y hx hy)
  obtain ⟨v, e4, hv, hv2, hv0, c4⟩ := res_casesB (z + t.value) (c_ref1_Add z t.value hz h.value)
  have hz4 : u 0 = _ := u_small 0 (by decide)
  have fin : (e1 = true → e2 = true → e3 = true → (A + B + t.value < U ∧ e4 = true ∧ v = A + B + t.value) ∨ (¬ A + B + t.value < U ∧ e4 = false ∧ v = 0)) ∧ (e1 = false ∨ e2 = false ∨ e3 = false → ¬ A + B + t.value < U) := by
    clear c1 c2 c1' c2' c3 c4 hA hB hcost hz4 o1 o2 w1 w2
    constructor
    · rintro rfl rfl rfl
      obtain ⟨_, rfl, q1⟩ | ⟨q, _⟩ := hx2
      · obtain ⟨_, rfl, q2⟩ | ⟨q, _⟩ := hy2
        · obtain ⟨_, rfl, q3⟩ | ⟨q, _⟩ := hz2
          · obtain ⟨r1, r2, r3⟩ | ⟨r1, r2⟩ := hv2
            · exact .inl ⟨r3, r1, r2⟩
            · exact .inr ⟨by omega, r1, hv0 r1⟩
          · cases q
        · cases q
      · cases q
    · intro q
      obtain ⟨_, rfl, q1⟩ | ⟨_, q1⟩ := hx2
      · obtain ⟨_, rfl, q2⟩ | ⟨_, q2⟩ := hy2
        · obtain ⟨_, rfl, q3⟩ | ⟨_, q3⟩ := hz2
          · simp_all
          · omega
        · omega
      · omega
  clear c1 c2 hA hB hx2 hy2 hz2 hv2 hcost
  generalize A + B + t.value = T at fin
  simp only [go_sem, ↓reduceIte, Nat.reduceLT, Nat.reduceLeDiff, Nat.reduceAdd, Nat.reduceSub, Nat.reduceMul, Nat.reduceEqDiff, Nat.reduceBEq, Nat.reduceMod, Nat.reduceDiv, Int.reduceToNat, reduceCtorEq, Int.reduceLT, Int.reduceLE, Int.reduceGT, Int.reduceGE, Int.reduceAdd, Int.reduceSub, Int.reduceMul, Int.reduceNeg, Int.reduceEq, Int.reduceNe, Int.reduceBNe, Int.reduceBEq, Int.reduceDiv, TxD.av, TxD.cells, ints, strs, List.length_map]
  refine ex_draw [] [4] (.quiet 0 (.quiet 1 (.quiet 2 (.quiet 3 (.two 4 (.two 5 (.quiet 6 (.quiet 7 (.quiet 8 (.one 9 (.lone 10 (.quiet 11 (.fin))))))) 9 (.one 5 (.quiet 6 (.quiet 7 (.quiet 8 (.lone 10 (.quiet 11 (.fin)))))))) 9 (.one 4 (.one 5 (.quiet 6 (.quiet 7 (.quiet 8 (.lone 10 (.quiet 11 (.fin))))))))))))) (by kernel_rfl) ?_
  refine ex_drawn ⟨[(1, .var 1 0), (2, .var 2 0), (3, .bool false), (4, .var 4 0), (5, .bool e1)], [(1, [.int .i64 t.frm, .int .i64 t.nonce, .int .u64 (lim t.tip 0), .int .u64 (lim t.tip 1), .int .u64 (lim t.tip 2), .int .u64 (lim t.tip 3),
  .int .u64 (lim t.cap 0), .int .u64 (lim t.cap 1), .int .u64 (lim t.cap 2), .int .u64 (lim t.cap 3), .int .u64 (lim t.bcap 0), .int .u64 (lim t.bcap 1), .int .u64 (lim t.bcap 2), .int .u64 (lim t.bcap 3),
  .int .u64 (lim t.value 0), .int .u64 (lim t.value 1), .int .u64 (lim t.value 2), .int .u64 (lim t.value 3), .int .i64 t.gas, .sl false 1 (t.hashes.map (AV.int .u64)), .sl false 1 (t.blobs.map AV.str)]), (2, [.int .u64 0, .int .u64 0, .int .u64 0, .int .u64 0]), (4, [.int .u64 (lim x 0), .int .u64 (lim x 1), .int .u64 (lim x 2), .int .u64 (lim x 3)])], []⟩ ?_ ?_
  · rw [← w1] at o1
    repeat' (first | (with_reducible refine And.intro ?_ ?_) | (refine ex_call o1 ?_) | (refine ex_call c1' ?_) |
      (simp only [go_sem, ↓reduceIte, Nat.reduceLT, Nat.reduceLeDiff, Nat.reduceAdd, Nat.reduceSub, Nat.reduceMul, Nat.reduceEqDiff, Nat.reduceBEq, Nat.reduceMod, Nat.reduceDiv, Int.reduceToNat, reduceCtorEq, Int.reduceLT, Int.reduceLE, Int.reduceGT, Int.reduceGE, Int.reduceAdd, Int.reduceSub, Int.reduceMul, Int.reduceNeg, Int.reduceEq, Int.reduceNe, Int.reduceBNe, Int.reduceBEq, Int.reduceDiv, ex_ord_two, u]))
  · simp only [go_sem, ↓reduceIte, Nat.reduceLT, Nat.reduceLeDiff, Nat.reduceAdd, Nat.reduceSub, Nat.reduceMul, Nat.reduceEqDiff, Nat.reduceBEq, Nat.reduceMod, Nat.reduceDiv, Int.reduceToNat, reduceCtorEq, Int.reduceLT, Int.reduceLE, Int.reduceGT, Int.reduceGE, Int.reduceAdd, Int.reduceSub, Int.reduceMul, Int.reduceNeg, Int.reduceEq, Int.reduceNe, Int.reduceBNe, Int.reduceBEq, Int.reduceDiv, List.length_map]
    refine ex_draw [] [6] (.quiet 0 (.quiet 1 (.quiet 2 (.quiet 3 (.quiet 4 (.quiet 5 (.two 6 (.two 7 (.quiet 8 (.quiet 9 (.quiet 10 (.one 11 (.lone 12 (.quiet 13 (.fin))))))) 11 (.one 7 (.quiet 8 (.quiet 9 (.quiet 10 (.lone 12 (.quiet 13 (.fin)))))))) 11 (.one 6 (.one 7 (.quiet 8 (.quiet 9 (.quiet 10 (.lone 12 (.quiet 13 (.fin))))))))))))))) (by kernel_rfl) ?_
    refine ex_drawn ⟨[(1, .var 1 0), (2, .var 2 0), (3, .bool false), (4, .var 4 0), (5, .bool e1), (6, .var 6 0), (7, .bool e2)], [(1, [.int .i64 t.frm, .int .i64 t.nonce, .int .u64 (lim t.tip 0), .int .u64 (lim t.tip 1), .int .u64 (lim t.tip 2), .int .u64 (lim t.tip 3), .int .u64 (lim t.cap 0), .int .u64 (lim t.cap 1), .int .u64 (lim t.cap 2), .int .u64 (lim t.cap 3), .int .u64 (lim t.bcap 0), .int .u64 (lim t.bcap 1), .int .u64 (lim t.bcap 2), .int .u64 (lim t.bcap 3), .int .u64 (lim t.value 0), .int .u64 (lim t.value 1), .int .u64 (lim t.value 2), .int .u64 (lim t.value 3), .int .i64 t.gas, .sl false 1 (t.hashes.map (AV.int .u64)), .sl false 1 (t.blobs.map AV.str)]), (2, [.int .u64 0, .int .u64 0, .int .u64 0, .int .u64 0]), (4, [.int .u64 (lim x 0), .int .u64 (lim x 1), .int .u64 (lim x 2), .int .u64 (lim x 3)]), (6, [.int .u64 (lim y 0), .int .u64 (lim y 1), .int .u64 (lim y 2), .int .u64 (lim y 3)])], []⟩ ?_ ?_
    · repeat' (first | (with_reducible refine And.intro ?_ ?_) | (refine ex_call o2 ?_) | (refine ex_call c2' ?_) |
        (simp only [go_sem, ↓reduceIte, Nat.reduceLT, Nat.reduceLeDiff, Nat.reduceAdd, Nat.reduceSub, Nat.reduceMul, Nat.reduceEqDiff, Nat.reduceBEq, Nat.reduceMod, Nat.reduceDiv, Int.reduceToNat, reduceCtorEq, Int.reduceLT, Int.reduceLE, Int.reduceGT, Int.reduceGE, Int.reduceAdd, Int.reduceSub, Int.reduceMul, Int.reduceNeg, Int.reduceEq, Int.reduceNe, Int.reduceBNe, Int.reduceBEq, Int.reduceDiv, ex_ord_two, u, w2, List.length_map]))
    · clear o1 o2 c1' c2'
      cases e1 with
      | false =>
        have hn := fin.2 (by simp)
        rw [if_neg hn, decide_eq_false hn, hz4]
        simp only [go_sem, ↓reduceIte, Nat.reduceLT, Nat.reduceLeDiff, Nat.reduceAdd, Nat.reduceSub, Nat.reduceMul, Nat.reduceEqDiff, Nat.reduceBEq, Nat.reduceMod, Nat.reduceDiv, Int.reduceToNat, reduceCtorEq, Int.reduceLT, Int.reduceLE, Int.reduceGT, Int.reduceGE, Int.reduceAdd, Int.reduceSub, Int.reduceMul, Int.reduceNeg, Int.reduceEq, Int.reduceNe, Int.reduceBNe, Int.reduceBEq, Int.reduceDiv]
        refine finTup ?_
        show resOf _ _ [.cell 2 25, .tmp 3] = _
        simp only [go_sem, ↓reduceIte, Nat.reduceLT, Nat.reduceLeDiff, Nat.reduceAdd, Nat.reduceSub, Nat.reduceMul, Nat.reduceEqDiff, Nat.reduceBEq, Nat.reduceMod, Nat.reduceDiv, Int.reduceToNat, reduceCtorEq, Int.reduceLT, Int.reduceLE, Int.reduceGT, Int.reduceGE, Int.reduceAdd, Int.reduceSub, Int.reduceMul, Int.reduceNeg, Int.reduceEq, Int.reduceNe, Int.reduceBNe, Int.reduceBEq, Int.reduceDiv]
        rfl
      | true =>
        cases e2 with
        | false =>
          have hn := fin.2 (by simp)
          rw [if_neg hn, decide_eq_false hn, hz4]
          simp only [go_sem, ↓reduceIte, Nat.reduceLT, Nat.reduceLeDiff, Nat.reduceAdd, Nat.reduceSub, Nat.reduceMul, Nat.reduceEqDiff, Nat.reduceBEq, Nat.reduceMod, Nat.reduceDiv, Int.reduceToNat, reduceCtorEq, Int.reduceLT, Int.reduceLE, Int.reduceGT, Int.reduceGE, Int.reduceAdd, Int.reduceSub, Int.reduceMul, Int.reduceNeg, Int.reduceEq, Int.reduceNe, Int.reduceBNe, Int.reduceBEq, Int.reduceDiv]
          refine finTup ?_
          show resOf _ _ [.cell 2 25, .tmp 3] = _
          simp only [go_sem, ↓reduceIte, Nat.reduceLT, Nat.reduceLeDiff, Nat.reduceAdd, Nat.reduceSub, Nat.reduceMul, Nat.reduceEqDiff, Nat.reduceBEq, Nat.reduceMod, Nat.reduceDiv, Int.reduceToNat, reduceCtorEq, Int.reduceLT, Int.reduceLE, Int.reduceGT, Int.reduceGE, Int.reduceAdd, Int.reduceSub, Int.reduceMul, Int.reduceNeg, Int.reduceEq, Int.reduceNe, Int.reduceBNe, Int.reduceBEq, Int.reduceDiv]
          rfl
        | true =>
          simp only [go_sem, ↓reduceIte, Nat.reduceLT, Nat.reduceLeDiff, Nat.reduceAdd, Nat.reduceSub, Nat.reduceMul, Nat.reduceEqDiff, Nat.reduceBEq, Nat.reduceMod, Nat.reduceDiv, Int.reduceToNat, reduceCtorEq, Int.reduceLT, Int.reduceLE, Int.reduceGT, Int.reduceGE, Int.reduceAdd, Int.reduceSub, Int.reduceMul, Int.reduceNeg, Int.reduceEq, Int.reduceNe, Int.reduceBNe, Int.reduceBEq, Int.reduceDiv]
          refine ex_call (by exact c3) ?_
          cases e3 with
          | false =>
            have hn := fin.2 (by simp)
            rw [if_neg hn, decide_eq_false hn, hz4]
            simp only [go_sem, ↓reduceIte, Nat.reduceLT, Nat.reduceLeDiff, Nat.reduceAdd, Nat.reduceSub, Nat.reduceMul, Nat.reduceEqDiff, Nat.reduceBEq, Nat.reduceMod, Nat.reduceDiv, Int.reduceToNat, reduceCtorEq, Int.reduceLT, Int.reduceLE, Int.reduceGT, Int.reduceGE, Int.reduceAdd, Int.reduceSub, Int.reduceMul, Int.reduceNeg, Int.reduceEq, Int.reduceNe, Int.reduceBNe, Int.reduceBEq, Int.reduceDiv, u]
            refine finTup ?_
            show resOf _ _ [.cell 2 25, .tmp 3] = _
            simp only [go_sem, ↓reduceIte, Nat.reduceLT, Nat.reduceLeDiff, Nat.reduceAdd, Nat.reduceSub, Nat.reduceMul, Nat.reduceEqDiff, Nat.reduceBEq, Nat.reduceMod, Nat.reduceDiv, Int.reduceToNat, reduceCtorEq, Int.reduceLT, Int.reduceLE, Int.reduceGT, Int.reduceGE, Int.reduceAdd, Int.reduceSub, Int.reduceMul, Int.reduceNeg, Int.reduceEq, Int.reduceNe, Int.reduceBNe, Int.reduceBEq, Int.reduceDiv]
            rfl
          | true =>
            simp only [go_sem, ↓reduceIte, Nat.reduceLT, Nat.reduceLeDiff, Nat.reduceAdd, Nat.reduceSub, Nat.reduceMul, Nat.reduceEqDiff, Nat.reduceBEq, Nat.reduceMod, Nat.reduceDiv, Int.reduceToNat, reduceCtorEq, Int.reduceLT, Int.reduceLE, Int.reduceGT, Int.reduceGE, Int.reduceAdd, Int.reduceSub, Int.reduceMul, Int.reduceNeg, Int.reduceEq, Int.reduceNe, Int.reduceBNe, Int.reduceBEq, Int.reduceDiv, u]
            refine ex_call (by exact c4) ?_
            simp only [go_sem, ↓reduceIte, Nat.reduceLT, Nat.reduceLeDiff, Nat.reduceAdd, Nat.reduceSub, Nat.reduceMul, Nat.reduceEqDiff, Nat.reduceBEq, Nat.reduceMod, Nat.reduceDiv, Int.reduceToNat, reduceCtorEq, Int.reduceLT, Int.reduceLE, Int.reduceGT, Int.reduceGE, Int.reduceAdd, Int.reduceSub, Int.reduceMul, Int.reduceNeg, Int.reduceEq, Int.reduceNe, Int.reduceBNe, Int.reduceBEq, Int.reduceDiv, u]
            refine finTup ?_
            show resOf _ _ [.cell 2 25, .tmp 3] = _
            obtain ⟨f1, rfl, rfl⟩ | ⟨f1, rfl, rfl⟩ := fin.1 rfl rfl rfl
            · rw [if_pos f1, decide_eq_true f1]
              simp only [go_sem, ↓reduceIte, Nat.reduceLT, Nat.reduceLeDiff, Nat.reduceAdd, Nat.reduceSub, Nat.reduceMul, Nat.reduceEqDiff, Nat.reduceBEq, Nat.reduceMod, Nat.reduceDiv, Int.reduceToNat, reduceCtorEq, Int.reduceLT, Int.reduceLE, Int.reduceGT, Int.reduceGE, Int.reduceAdd, Int.reduceSub, Int.reduceMul, Int.reduceNeg, Int.reduceEq, Int.reduceNe, Int.reduceBNe, Int.reduceBEq, Int.reduceDiv, u]
            · rw [if_neg f1, decide_eq_false f1]
              simp only [go_sem, ↓reduceIte, Nat.reduceLT, Nat.reduceLeDiff, Nat.reduceAdd, Nat.reduceSub, Nat.reduceMul, Nat.reduceEqDiff, Nat.reduceBEq, Nat.reduceMod, Nat.reduceDiv, Int.reduceToNat, reduceCtorEq, Int.reduceLT, Int.reduceLE, Int.reduceGT, Int.reduceGE, Int.reduceAdd, Int.reduceSub, Int.reduceMul, Int.reduceNeg, Int.reduceEq, Int.reduceNe, Int.reduceBNe, Int.reduceBEq, Int.reduceDiv, u]

/-! Which transactions may be. -/
def validTx (t : TxD) : Bool := decide (0 ≤ t.frm) && decide (t.frm < 8) && (decide (0 ≤ t.nonce) && decide (t.nonce ≤ 1099511627776)) && (decide (0 ≤ t.gas) && decide (t.gas ≤ 1073741824)) && decide (t.tip ≤ t.cap) && decide (fitsOf t.hashes t.blobs = 0) && decide (costOf t < U)
theorem fits_len {hs : List Int} {bs : List (List UInt8)} (h : fitsOf hs bs = 0) : 1 ≤ bs.length ∧ bs.length ≤ 4 ∧ hs.length = bs.length := by
  unfold fitsOf at h
  cases hb : badFit hs bs with
  | true => rw [hb] at h; cases h
  | false =>
    simp only [badFit, Bool.or_eq_false_iff, decide_eq_false_iff_not, ne_eq, Decidable.not_not] at hb
    omega
theorem cmp_le {n m : Nat} : decide (cmpOf n m > 0) = !decide (n ≤ m) := by
  unfold cmpOf
  rw [Bool.eq_iff_iff]
  simp only [decide_eq_true_eq, Bool.not_eq_true', decide_eq_false_iff_not]
  split <;> (try split) <;> omega

theorem cmp_lt {n m : Nat} : decide (cmpOf n m < 0) = decide (n < m) := by
  unfold cmpOf
  rw [Bool.eq_iff_iff]
  simp only [decide_eq_true_eq]
  split <;> (try split) <;> omega
theorem c_tx_Check (t : TxD) (h : t.ok) : Contract Try.prog 83 [t.av] (.int .i64 (if validTx t = true then 0 else 1)) := by
  refine contract_of (C := cf 50 [1, 2, 4, 5, 30, 49] (fun _ => [])) (cf_ok _ _ _) (fn := Try.f83) Try.func83 (by kernel_rfl) rfl (by kernel_rfl) (by simp [cf]) (plain1 t.plain) (by decide) (noCell (by kernel_rfl)) ?_
  have bad : ∀ {p : Prop}, (validTx t = true → p) → ¬ p → (if validTx t = true then (0 : Int) else 1) = 1 := fun h1 h2 => if_neg fun e => h2 (h1 e)
  have v1 : validTx t = true → 0 ≤ t.frm ∧ t.frm < 8 := fun e => by simp only [validTx, Bool.and_eq_true, decide_eq_true_eq] at e; omega
  have v2 : validTx t = true → 0 ≤ t.nonce ∧ t.nonce ≤ 1099511627776 := fun e => by simp only [validTx, Bool.and_eq_true, decide_eq_true_eq] at e; omega
  have v3 : validTx t = true → 0 ≤ t.gas ∧ t.gas ≤ 1073741824 := fun e => by simp only [validTx, Bool.and_eq_true, decide_eq_true_eq] at e; omega
  have v4 : validTx t = true → t.tip ≤ t.cap := fun e => by simp only [validTx, Bool.and_eq_true, decide_eq_true_eq] at e; omega
  have v5 : validTx t = true → fitsOf t.hashes t.blobs = 0 := fun e => by simp only [validTx, Bool.and_eq_true, decide_eq_true_eq] at e; exact e.1.2
  have v6 : validTx t = true → costOf t < U := fun e => by simp only [validTx, Bool.and_eq_true, decide_eq_true_eq] at e; exact e.2
  simp only [go_sem, ↓reduceIte, Nat.reduceLT, Nat.reduceLeDiff, Nat.reduceAdd, Nat.reduceSub, Nat.reduceMul, Nat.reduceEqDiff, Nat.reduceBEq, Nat.reduceMod, Nat.reduceDiv, Int.reduceToNat, reduceCtorEq, Int.reduceLT, Int.reduceLE, Int.reduceGT, Int.reduceGE, Int.reduceAdd, Int.reduceSub, Int.reduceMul, Int.reduceNeg, Int.reduceEq, Int.reduceNe, Int.reduceBNe, Int.reduceBEq, Int.reduceDiv, TxD.av, TxD.cells, ints, strs, List.length_map]
  refine ex_joinB 5 (decide (t.frm < 0) || decide (t.frm ≥ 8)) ?_ ?_
  · repeat' (first | (refine ex_split (fun h => ?_) (fun h => ?_)) | (with_reducible refine And.intro (by omega) ?_) |
      (simp only [go_sem, ↓reduceIte, Nat.reduceLT, Nat.reduceLeDiff, Nat.reduceAdd, Nat.reduceSub, Nat.reduceMul, Nat.reduceEqDiff, Nat.reduceBEq, Nat.reduceMod, Nat.reduceDiv, Int.reduceToNat, reduceCtorEq, Int.reduceLT, Int.reduceLE, Int.reduceGT, Int.reduceGE, Int.reduceAdd, Int.reduceSub, Int.reduceMul, Int.reduceNeg, Int.reduceEq, Int.reduceNe, Int.reduceBNe, Int.reduceBEq, Int.reduceDiv]))
    all_goals (try simp only [ASt.mk.injEq, List.cons.injEq, Prod.mk.injEq, AV.bool.injEq, true_and, and_true, eq_self])
    all_goals first | (simp_all; done) | (simp_all; omega) | (rw [Bool.eq_iff_iff]; simp only [List.length_map, Bool.or_eq_true, Bool.and_eq_true, Bool.not_eq_true', Bool.not_eq_false', decide_eq_true_eq, decide_eq_false_iff_not, bne_iff_ne, beq_iff_eq, ne_eq, true_iff, iff_true, false_iff, iff_false, Bool.false_eq_true, not_false_eq_true, not_true_eq_false] at *; omega)
  simp only [go_sem, ↓reduceIte, Nat.reduceLT, Nat.reduceLeDiff, Nat.reduceAdd, Nat.reduceSub, Nat.reduceMul, Nat.reduceEqDiff, Nat.reduceBEq, Nat.reduceMod, Nat.reduceDiv, Int.reduceToNat, reduceCtorEq, Int.reduceLT, Int.reduceLE, Int.reduceGT, Int.reduceGE, Int.reduceAdd, Int.reduceSub, Int.reduceMul, Int.reduceNeg, Int.reduceEq, Int.reduceNe, Int.reduceBNe, Int.reduceBEq, Int.reduceDiv]
  refine ex_br (fun b1 => ?_) (fun b1 => ?_)
  · rw [bad v1 (by simp at b1; omega)]
    simp only [go_sem, ↓reduceIte, Nat.reduceLT, Nat.reduceLeDiff, Nat.reduceAdd, Nat.reduceSub, Nat.reduceMul, Nat.reduceEqDiff, Nat.reduceBEq, Nat.reduceMod, Nat.reduceDiv, Int.reduceToNat, reduceCtorEq, Int.reduceLT, Int.reduceLE, Int.reduceGT, Int.reduceGE, Int.reduceAdd, Int.reduceSub, Int.reduceMul, Int.reduceNeg, Int.reduceEq, Int.reduceNe, Int.reduceBNe, Int.reduceBEq, Int.reduceDiv, b1]
    refine finOne ?_ (fun _ e => by cases e)
    show resOf _ _ [.tmp 2] = _
    simp only [go_sem, ↓reduceIte, Nat.reduceLT, Nat.reduceLeDiff, Nat.reduceAdd, Nat.reduceSub, Nat.reduceMul, Nat.reduceEqDiff, Nat.reduceBEq, Nat.reduceMod, Nat.reduceDiv, Int.reduceToNat, reduceCtorEq, Int.reduceLT, Int.reduceLE, Int.reduceGT, Int.reduceGE, Int.reduceAdd, Int.reduceSub, Int.reduceMul, Int.reduceNeg, Int.reduceEq, Int.reduceNe, Int.reduceBNe, Int.reduceBEq, Int.reduceDiv]
  · simp only [go_sem, ↓reduceIte, Nat.reduceLT, Nat.reduceLeDiff, Nat.reduceAdd, Nat.reduceSub, Nat.reduceMul, Nat.reduceEqDiff, Nat.reduceBEq, Nat.reduceMod, Nat.reduceDiv, Int.reduceToNat, reduceCtorEq, Int.reduceLT, Int.reduceLE, Int.reduceGT, Int.reduceGE, Int.reduceAdd, Int.reduceSub, Int.reduceMul, Int.reduceNeg, Int.reduceEq, Int.reduceNe, Int.reduceBNe, Int.reduceBEq, Int.reduceDiv]
    refine ex_joinB 5 (decide (t.nonce < 0) || decide (t.nonce > 1099511627776)) ?_ ?_
    · repeat' (first | (refine ex_split (fun h => ?_) (fun h => ?_)) | (with_reducible refine And.intro (by omega) ?_) |
        (simp only [go_sem, ↓reduceIte, Nat.reduceLT, Nat.reduceLeDiff, Nat.reduceAdd, Nat.reduceSub, Nat.reduceMul, Nat.reduceEqDiff, Nat.reduceBEq, Nat.reduceMod, Nat.reduceDiv, Int.reduceToNat, reduceCtorEq, Int.reduceLT, Int.reduceLE, Int.reduceGT, Int.reduceGE, Int.reduceAdd, Int.reduceSub, Int.reduceMul, Int.reduceNeg, Int.reduceEq, Int.reduceNe, Int.reduceBNe, Int.reduceBEq, Int.reduceDiv]))
      all_goals (try simp only [ASt.mk.injEq, List.cons.injEq, Prod.mk.injEq, AV.bool.injEq, true_and, and_true, eq_self])
      all_goals first | (simp_all; done) | (simp_all; omega) | (rw [Bool.eq_iff_iff]; simp only [List.length_map, Bool.or_eq_true, Bool.and_eq_true, Bool.not_eq_true', Bool.not_eq_false', decide_eq_true_eq, decide_eq_false_iff_not, bne_iff_ne, beq_iff_eq, ne_eq, true_iff, iff_true, false_iff, iff_false, Bool.false_eq_true, not_false_eq_true, not_true_eq_false] at *; omega)
    simp only [go_sem, ↓reduceIte, Nat.reduceLT, Nat.reduceLeDiff, Nat.reduceAdd, Nat.reduceSub, Nat.reduceMul, Nat.reduceEqDiff, Nat.reduceBEq, Nat.reduceMod, Nat.reduceDiv, Int.reduceToNat, reduceCtorEq, Int.reduceLT, Int.reduceLE, Int.reduceGT, Int.reduceGE, Int.reduceAdd, Int.reduceSub, Int.reduceMul, Int.reduceNeg, Int.reduceEq, Int.reduceNe, Int.reduceBNe, Int.reduceBEq, Int.reduceDiv]
    refine ex_br (fun b2 => ?_) (fun b2 => ?_)
    · rw [bad v2 (by simp at b2; omega)]
      simp only [go_sem, ↓reduceIte, Nat.reduceLT, Nat.reduceLeDiff, Nat.reduceAdd, Nat.reduceSub, Nat.reduceMul, Nat.reduceEqDiff, Nat.reduceBEq, Nat.reduceMod, Nat.reduceDiv, Int.reduceToNat, reduceCtorEq, Int.reduceLT, Int.reduceLE, Int.reduceGT, Int.reduceGE, Int.reduceAdd, Int.reduceSub, Int.reduceMul, Int.reduceNeg, Int.reduceEq, Int.reduceNe, Int.reduceBNe, Int.reduceBEq, Int.reduceDiv, b2]
      refine finOne ?_ (fun _ e => by cases e)
      show resOf _ _ [.tmp 2] = _
      simp only [go_sem, ↓reduceIte, Nat.reduceLT, Nat.reduceLeDiff, Nat.reduceAdd, Nat.reduceSub, Nat.reduceMul, Nat.reduceEqDiff, Nat.reduceBEq, Nat.reduceMod, Nat.reduceDiv, Int.reduceToNat, reduceCtorEq, Int.reduceLT, Int.reduceLE, Int.reduceGT, Int.reduceGE, Int.reduceAdd, Int.reduceSub, Int.reduceMul, Int.reduceNeg, Int.reduceEq, Int.reduceNe, Int.reduceBNe, Int.reduceBEq, Int.reduceDiv]
    · simp only [go_sem, ↓reduceIte, Nat.reduceLT, Nat.reduceLeDiff, Nat.reduceAdd, Nat.reduceSub, Nat.reduceMul, Nat.reduceEqDiff, Nat.reduceBEq, Nat.reduceMod, Nat.reduceDiv, Int.reduceToNat, reduceCtorEq, Int.reduceLT, Int.reduceLE, Int.reduceGT, Int.reduceGE, Int.reduceAdd, Int.reduceSub, Int.reduceMul, Int.reduceNeg, Int.reduceEq, Int.reduceNe, Int.reduceBNe, Int.reduceBEq, Int.reduceDiv]
      refine ex_joinB 5 (decide (t.gas < 0) || decide (t.gas > 1073741824)) ?_ ?_
      · repeat' (first | (refine ex_split (fun h => ?_) (fun h => ?_)) | (with_reducible refine And.intro (by omega) ?_) |
          (simp only [go_sem, ↓reduceIte, Nat.reduceLT, Nat.reduceLeDiff, Nat.reduceAdd, Nat.reduceSub, Nat.reduceMul, Nat.reduceEqDiff, Nat.reduceBEq, Nat.reduceMod, Nat.reduceDiv, Int.reduceToNat, reduceCtorEq, Int.reduceLT, Int.reduceLE, Int.reduceGT, Int.reduceGE, Int.reduceAdd, Int.reduceSub, Int.reduceMul, Int.reduceNeg, Int.reduceEq, Int.reduceNe, Int.reduceBNe, Int.reduceBEq, Int.reduceDiv]))
        all_goals (try simp only [ASt.mk.injEq, List.cons.injEq, Prod.mk.injEq, AV.bool.injEq, true_and, and_true, eq_self])
        all_goals first | (simp_all; done) | (simp_all; omega) | (rw [Bool.eq_iff_iff]; simp only [List.length_map, Bool.or_eq_true, Bool.and_eq_true, Bool.not_eq_true', Bool.not_eq_false', decide_eq_true_eq, decide_eq_false_iff_not, bne_iff_ne, beq_iff_eq, ne_eq, true_iff, iff_true, false_iff, iff_false, Bool.false_eq_true, not_false_eq_true, not_true_eq_false] at *; omega)
      simp only [go_sem, ↓reduceIte, Nat.reduceLT, Nat.reduceLeDiff, Nat.reduceAdd, Nat.reduceSub, Nat.reduceMul, Nat.reduceEqDiff, Nat.reduceBEq, Nat.reduceMod, Nat.reduceDiv, Int.reduceToNat, reduceCtorEq, Int.reduceLT, Int.reduceLE, Int.reduceGT, Int.reduceGE, Int.reduceAdd, Int.reduceSub, Int.reduceMul, Int.reduceNeg, Int.reduceEq, Int.reduceNe, Int.reduceBNe, Int.reduceBEq, Int.reduceDiv]
      refine ex_br (fun b3 => ?_) (fun b3 => ?_)
      · rw [bad v3 (by simp at b3; omega)]
        simp only [go_sem, ↓reduceIte, Nat.reduceLT, Nat.reduceLeDiff, Nat.reduceAdd, Nat.reduceSub, Nat.reduceMul, Nat.reduceEqDiff, Nat.reduceBEq, Nat.reduceMod, Nat.reduceDiv, Int.reduceToNat, reduceCtorEq, Int.reduceLT, Int.reduceLE, Int.reduceGT, Int.reduceGE, Int.reduceAdd, Int.reduceSub, Int.reduceMul, Int.reduceNeg, Int.reduceEq, Int.reduceNe, Int.reduceBNe, Int.reduceBEq, Int.reduceDiv, b3]
        refine finOne ?_ (fun _ e => by cases e)
        show resOf _ _ [.tmp 2] = _
        simp only [go_sem, ↓reduceIte, Nat.reduceLT, Nat.reduceLeDiff, Nat.reduceAdd, Nat.reduceSub, Nat.reduceMul, Nat.reduceEqDiff, Nat.reduceBEq, Nat.reduceMod, Nat.reduceDiv, Int.reduceToNat, reduceCtorEq, Int.reduceLT, Int.reduceLE, Int.reduceGT, Int.reduceGE, Int.reduceAdd, Int.reduceSub, Int.reduceMul, Int.reduceNeg, Int.reduceEq, Int.reduceNe, Int.reduceBNe, Int.reduceBEq, Int.reduceDiv]
      · simp only [go_sem, ↓reduceIte, Nat.reduceLT, Nat.reduceLeDiff, Nat.reduceAdd, Nat.reduceSub, Nat.reduceMul, Nat.reduceEqDiff, Nat.reduceBEq, Nat.reduceMod, Nat.reduceDiv, Int.reduceToNat, reduceCtorEq, Int.reduceLT, Int.reduceLE, Int.reduceGT, Int.reduceGE, Int.reduceAdd, Int.reduceSub, Int.reduceMul, Int.reduceNeg, Int.reduceEq, Int.reduceNe, Int.reduceBNe, Int.reduceBEq, Int.reduceDiv]
        refine ex_call (by exact c_u256_Cmp t.tip t.cap h.tip h.cap) ?_
        simp only [go_sem, ↓reduceIte, Nat.reduceLT, Nat.reduceLeDiff, Nat.reduceAdd, Nat.reduceSub, Nat.reduceMul, Nat.reduceEqDiff, Nat.reduceBEq, Nat.reduceMod, Nat.reduceDiv, Int.reduceToNat, reduceCtorEq, Int.reduceLT, Int.reduceLE, Int.reduceGT, Int.reduceGE, Int.reduceAdd, Int.reduceSub, Int.reduceMul, Int.reduceNeg, Int.reduceEq, Int.reduceNe, Int.reduceBNe, Int.reduceBEq, Int.reduceDiv, cmp_le]
        refine ex_br (fun b4 => ?_) (fun b4 => ?_)
        · rw [bad v4 (by simp at b4; omega)]
          simp only [go_sem, ↓reduceIte, Nat.reduceLT, Nat.reduceLeDiff, Nat.reduceAdd, Nat.reduceSub, Nat.reduceMul, Nat.reduceEqDiff, Nat.reduceBEq, Nat.reduceMod, Nat.reduceDiv, Int.reduceToNat, reduceCtorEq, Int.reduceLT, Int.reduceLE, Int.reduceGT, Int.reduceGE, Int.reduceAdd, Int.reduceSub, Int.reduceMul, Int.reduceNeg, Int.reduceEq, Int.reduceNe, Int.reduceBNe, Int.reduceBEq, Int.reduceDiv, b4]
          refine finOne ?_ (fun _ e => by cases e)
          show resOf _ _ [.tmp 2] = _
          simp only [go_sem, ↓reduceIte, Nat.reduceLT, Nat.reduceLeDiff, Nat.reduceAdd, Nat.reduceSub, Nat.reduceMul, Nat.reduceEqDiff, Nat.reduceBEq, Nat.reduceMod, Nat.reduceDiv, Int.reduceToNat, reduceCtorEq, Int.reduceLT, Int.reduceLE, Int.reduceGT, Int.reduceGE, Int.reduceAdd, Int.reduceSub, Int.reduceMul, Int.reduceNeg, Int.reduceEq, Int.reduceNe, Int.reduceBNe, Int.reduceBEq, Int.reduceDiv]
        · simp only [go_sem, ↓reduceIte, Nat.reduceLT, Nat.reduceLeDiff, Nat.reduceAdd, Nat.reduceSub, Nat.reduceMul, Nat.reduceEqDiff, Nat.reduceBEq, Nat.reduceMod, Nat.reduceDiv, Int.reduceToNat, reduceCtorEq, Int.reduceLT, Int.reduceLE, Int.reduceGT, Int.reduceGE, Int.reduceAdd, Int.reduceSub, Int.reduceMul, Int.reduceNeg, Int.reduceEq, Int.reduceNe, Int.reduceBNe, Int.reduceBEq, Int.reduceDiv]
          refine ex_call (by exact c_blob_Fits t.hashes t.blobs h.blob) ?_
          simp only [go_sem, ↓reduceIte, Nat.reduceLT, Nat.reduceLeDiff, Nat.reduceAdd, Nat.reduceSub, Nat.reduceMul, Nat.reduceEqDiff, Nat.reduceBEq, Nat.reduceMod, Nat.reduceDiv, Int.reduceToNat, reduceCtorEq, Int.reduceLT, Int.reduceLE, Int.reduceGT, Int.reduceGE, Int.reduceAdd, Int.reduceSub, Int.reduceMul, Int.reduceNeg, Int.reduceEq, Int.reduceNe, Int.reduceBNe, Int.reduceBEq, Int.reduceDiv]
          refine ex_br (fun b5 => ?_) (fun b5 => ?_)
          · rw [bad v5 (by simpa using b5)]
            simp only [go_sem, ↓reduceIte, Nat.reduceLT, Nat.reduceLeDiff, Nat.reduceAdd, Nat.reduceSub, Nat.reduceMul, Nat.reduceEqDiff, Nat.reduceBEq, Nat.reduceMod, Nat.reduceDiv, Int.reduceToNat, reduceCtorEq, Int.reduceLT, Int.reduceLE, Int.reduceGT, Int.reduceGE, Int.reduceAdd, Int.reduceSub, Int.reduceMul, Int.reduceNeg, Int.reduceEq, Int.reduceNe, Int.reduceBNe, Int.reduceBEq, Int.reduceDiv, b5]
            refine finOne ?_ (fun _ e => by cases e)
            show resOf _ _ [.tmp 2] = _
            simp only [go_sem, ↓reduceIte, Nat.reduceLT, Nat.reduceLeDiff, Nat.reduceAdd, Nat.reduceSub, Nat.reduceMul, Nat.reduceEqDiff, Nat.reduceBEq, Nat.reduceMod, Nat.reduceDiv, Int.reduceToNat, reduceCtorEq, Int.reduceLT, Int.reduceLE, Int.reduceGT, Int.reduceGE, Int.reduceAdd, Int.reduceSub, Int.reduceMul, Int.reduceNeg, Int.reduceEq, Int.reduceNe, Int.reduceBNe, Int.reduceBEq, Int.reduceDiv]
          · have hf : fitsOf t.hashes t.blobs = 0 := by simpa using b5
            have hl := fits_len hf
            have hgas : 0 ≤ t.gas ∧ t.gas ≤ 1073741824 := by simp at b3; omega
            simp only [go_sem, ↓reduceIte, Nat.reduceLT, Nat.reduceLeDiff, Nat.reduceAdd, Nat.reduceSub, Nat.reduceMul, Nat.reduceEqDiff, Nat.reduceBEq, Nat.reduceMod, Nat.reduceDiv, Int.reduceToNat, reduceCtorEq, Int.reduceLT, Int.reduceLE, Int.reduceGT, Int.reduceGE, Int.reduceAdd, Int.reduceSub, Int.reduceMul, Int.reduceNeg, Int.reduceEq, Int.reduceNe, Int.reduceBNe, Int.reduceBEq, Int.reduceDiv]
            refine ex_call (by exact c_tx_cost t h hgas ⟨hl.1, hl.2.1⟩) ?_
            simp only [go_sem, ↓reduceIte, Nat.reduceLT, Nat.reduceLeDiff, Nat.reduceAdd, Nat.reduceSub, Nat.reduceMul, Nat.reduceEqDiff, Nat.reduceBEq, Nat.reduceMod, Nat.reduceDiv, Int.reduceToNat, reduceCtorEq, Int.reduceLT, Int.reduceLE, Int.reduceGT, Int.reduceGE, Int.reduceAdd, Int.reduceSub, Int.reduceMul, Int.reduceNeg, Int.reduceEq, Int.reduceNe, Int.reduceBNe, Int.reduceBEq, Int.reduceDiv, u]
            refine ex_br (fun b6 => ?_) (fun b6 => ?_)
            · rw [bad v6 (by simpa using b6)]
              simp only [go_sem, ↓reduceIte, Nat.reduceLT, Nat.reduceLeDiff, Nat.reduceAdd, Nat.reduceSub, Nat.reduceMul, Nat.reduceEqDiff, Nat.reduceBEq, Nat.reduceMod, Nat.reduceDiv, Int.reduceToNat, reduceCtorEq, Int.reduceLT, Int.reduceLE, Int.reduceGT, Int.reduceGE, Int.reduceAdd, Int.reduceSub, Int.reduceMul, Int.reduceNeg, Int.reduceEq, Int.reduceNe, Int.reduceBNe, Int.reduceBEq, Int.reduceDiv, b6]
              refine finOne ?_ (fun _ e => by cases e)
              show resOf _ _ [.tmp 2] = _
              simp only [go_sem, ↓reduceIte, Nat.reduceLT, Nat.reduceLeDiff, Nat.reduceAdd, Nat.reduceSub, Nat.reduceMul, Nat.reduceEqDiff, Nat.reduceBEq, Nat.reduceMod, Nat.reduceDiv, Int.reduceToNat, reduceCtorEq, Int.reduceLT, Int.reduceLE, Int.reduceGT, Int.reduceGE, Int.reduceAdd, Int.reduceSub, Int.reduceMul, Int.reduceNeg, Int.reduceEq, Int.reduceNe, Int.reduceBNe, Int.reduceBEq, Int.reduceDiv]
            · have hv : validTx t = true := by
                simp only [validTx, Bool.and_eq_true, decide_eq_true_eq]
                simp at b1 b2 b4 b6
                refine ⟨⟨⟨⟨⟨⟨?_, ?_⟩, ?_, ?_⟩, ?_, ?_⟩, ?_⟩, hf⟩, ?_⟩ <;> omega
              rw [if_pos hv]
              simp only [go_sem, ↓reduceIte, Nat.reduceLT, Nat.reduceLeDiff, Nat.reduceAdd, Nat.reduceSub, Nat.reduceMul, Nat.reduceEqDiff, Nat.reduceBEq, Nat.reduceMod, Nat.reduceDiv, Int.reduceToNat, reduceCtorEq, Int.reduceLT, Int.reduceLE, Int.reduceGT, Int.reduceGE, Int.reduceAdd, Int.reduceSub, Int.reduceMul, Int.reduceNeg, Int.reduceEq, Int.reduceNe, Int.reduceBNe, Int.reduceBEq, Int.reduceDiv]
              refine finOne ?_ (fun _ e => by cases e)
              show resOf _ _ [.tmp 2] = _
              simp only [go_sem, ↓reduceIte, Nat.reduceLT, Nat.reduceLeDiff, Nat.reduceAdd, Nat.reduceSub, Nat.reduceMul, Nat.reduceEqDiff, Nat.reduceBEq, Nat.reduceMod, Nat.reduceDiv, Int.reduceToNat, reduceCtorEq, Int.reduceLT, Int.reduceLE, Int.reduceGT, Int.reduceGE, Int.reduceAdd, Int.reduceSub, Int.reduceMul, Int.reduceNeg, Int.reduceEq, Int.reduceNe, Int.reduceBNe, Int.reduceBEq, Int.reduceDiv]
end Go.Proofs.Ytpepfhbfooeoeaa.VA
end
section
namespace Go.Proofs.Ytpepfhbfooeoeaa.VA

theorem wf_i64 {n : Int} (h : (Lit.int .i64 n).wf = true) : -9223372036854775808 ≤ n ∧ n ≤ 9223372036854775807 := by
  simp only [Lit.wf, IntKind.min, IntKind.max, IntKind.signed, IntKind.bits, Bool.and_eq_true, decide_eq_true_eq, if_true, Bool.false_eq_true, if_false] at h
  omega
theorem wf_u64 {n : Int} (h : (Lit.int .u64 n).wf = true) : 0 ≤ n ∧ n < 18446744073709551616 := by
  simp only [Lit.wf, IntKind.min, IntKind.max, IntKind.signed, IntKind.bits, Bool.and_eq_true, decide_eq_true_eq, if_true, Bool.false_eq_true, if_false] at h
  omega
theorem ty_u {x : AV} (h : Ty ti 25 x) : ∃ n : Nat, x = u n ∧ n < U := by
  obtain ⟨xs, rfl, hn, hall⟩ := ty_arr (n := 4) (e := 23) (esz := 1) (by rw [ti25]) h
  match xs, hn with
  | [x0, x1, x2, x3], _ =>
    obtain ⟨a, rfl, ha⟩ := ty_int (k := .u64) (by rw [ti23]) (hall x0 (by simp))
    obtain ⟨b, rfl, hb⟩ := ty_int (k := .u64) (by rw [ti23]) (hall x1 (by simp))
    obtain ⟨c, rfl, hc⟩ := ty_int (k := .u64) (by rw [ti23]) (hall x2 (by simp))
    obtain ⟨d, rfl, hd⟩ := ty_int (k := .u64) (by rw [ti23]) (hall x3 (by simp))
    have ha := wf_u64 ha
    have hb := wf_u64 hb
    have hc := wf_u64 hc
    have hd := wf_u64 hd
    obtain ⟨a, rfl⟩ := Int.eq_ofNat_of_zero_le ha.1
    obtain ⟨b, rfl⟩ := Int.eq_ofNat_of_zero_le hb.1
    obtain ⟨c, rfl⟩ := Int.eq_ofNat_of_zero_le hc.1
    obtain ⟨d, rfl⟩ := Int.eq_ofNat_of_zero_le hd.1
    refine ⟨a + 18446744073709551616 * b + 340282366920938463463374607431768211456 * c + 6277101735386680763835789423207666416102355444464034512896 * d, ?_, ?_⟩
    · rw [u_eq (a := a) (b := b) (c := c) (d := d) (by omega) (by omega) (by omega) (by omega) rfl]
      rfl
    · unfold U; omega
theorem ty_tx {x : AV} (h : Ty ti 29 x) : ∃ t : TxD, x = t.av ∧ t.ok := by
  obtain ⟨xs, rfl, hn, hall⟩ := ty_struct (fs := [(0, 1, 3), (1, 1, 3), (2, 4, 25), (6, 4, 25), (10, 4, 25), (14, 4, 25), (18, 1, 3), (19, 1, 26), (20, 1, 27)]) (by rw [ti29]) h
  match xs, hn with
  | [x0, x1, x2, x3, x4, x5, x6, x7, x8], _ =>
    obtain ⟨f, rfl, h0⟩ := ty_int (k := .i64) (by rw [ti3]) (hall 0 _ _ _ x0 rfl rfl)
    obtain ⟨n, rfl, h1⟩ := ty_int (k := .i64) (by rw [ti3]) (hall 1 _ _ _ x1 rfl rfl)
    obtain ⟨p, rfl, h2⟩ := ty_u (hall 2 _ _ _ x2 rfl rfl)
    obtain ⟨c, rfl, h3⟩ := ty_u (hall 3 _ _ _ x3 rfl rfl)
    obtain ⟨b, rfl, h4⟩ := ty_u (hall 4 _ _ _ x4 rfl rfl)
    obtain ⟨v, rfl, h5⟩ := ty_u (hall 5 _ _ _ x5 rfl rfl)
    obtain ⟨g, rfl, h6⟩ := ty_int (k := .i64) (by rw [ti3]) (hall 6 _ _ _ x6 rfl rfl)
    obtain ⟨hs, rfl, a7, b7⟩ := ty_ints (e := 23) (eb := 8) (k := .u64) (by rw [ti26]) (by rw [ti23]) (hall 7 _ _ _ x7 rfl rfl)
    obtain ⟨bs, rfl, a8, b8⟩ := ty_strs (e := 9) (eb := 16) (by rw [ti27]) (by rw [ti9]) (hall 8 _ _ _ x8 rfl rfl)
    exact ⟨⟨f, n, p, c, b, v, g, hs, bs⟩, rfl, wf_i64 h0, wf_i64 h1, wf_i64 h6, h2, h3, h4, h5, a7, a8, b8⟩
end Go.Proofs.Ytpepfhbfooeoeaa.VA
end
section
namespace Go.Proofs.Ytpepfhbfooeoeaa.VA

theorem ty_txs {x : AV} (h : Ty ti 46 x) : ∃ l : List TxD, x = .sl false 21 (l.map TxD.av) ∧ l.length * 200 ≤ reachBytes ∧ ∀ a ∈ l, a.ok := by
  obtain ⟨es, rfl, hs, hall⟩ := ty_slice (e := 29) (esz := 21) (eb := 200) (by rw [ti46]) h
  obtain ⟨l, rfl, hl⟩ := ty_map (f := TxD.av) (fun y hy => ty_tx hy) es hall
  exact ⟨l, rfl, by simpa using hs, hl⟩
theorem plain_txs (l : List TxD) : Plain (.sl false 21 (l.map TxD.av)) := .sl 21 _ fun c hc => by
  obtain ⟨s, _, rfl⟩ := List.mem_map.1 hc
  exact s.plain
end Go.Proofs.Ytpepfhbfooeoeaa.VA
end
section
namespace Go.Proofs.Ytpepfhbfooeoeaa.VA
set_option maxRecDepth 10000
set_option maxHeartbeats 8000000

theorem c_ref7_Tx (t : TxD) (h : t.ok) : Contract Try.prog 33 [t.av] (.bool (validTx t)) := by
  refine contract_of (C := cf 43 [1, 2, 4, 36] (fun _ => [])) (cf_ok _ _ _) (fn := Try.f33) Try.func33 (by kernel_rfl) rfl (by kernel_rfl) (by simp [cf]) (plain1 t.plain) (by decide) (noCell (by kernel_rfl)) ?_
  have bad : ∀ {p : Prop}, (validTx t = true → p) → ¬ p → validTx t = false := fun h1 h2 => by
    cases hv : validTx t with
    | false => rfl
    | true => exact (h2 (h1 hv)).elim
  have v1 : validTx t = true → 0 ≤ t.frm ∧ t.frm < 8 := fun e => by simp only [validTx, Bool.and_eq_true, decide_eq_true_eq] at e; omega
  have v2 : validTx t = true → 0 ≤ t.nonce ∧ t.nonce ≤ 1099511627776 := fun e => by simp only [validTx, Bool.and_eq_true, decide_eq_true_eq] at e; omega
  have v3 : validTx t = true → 0 ≤ t.gas ∧ t.gas ≤ 1073741824 := fun e => by simp only [validTx, Bool.and_eq_true, decide_eq_true_eq] at e; omega
  have v4 : validTx t = true → t.tip ≤ t.cap := fun e => by simp only [validTx, Bool.and_eq_true, decide_eq_true_eq] at e; omega
  have v5 : validTx t = true → fitsOf t.hashes t.blobs = 0 := fun e => by simp only [validTx, Bool.and_eq_true, decide_eq_true_eq] at e; exact e.1.2
  have v6 : validTx t = true → costOf t < U := fun e => by simp only [validTx, Bool.and_eq_true, decide_eq_true_eq] at e; exact e.2
  have fin : ∀ {C : Cfg} {σ : ASt}, validTx t = false → resOf C σ Try.f33.results.toList = some (.bool false) → BodyPost C Try.f33.results.toList (.bool (validTx t)) .ret σ := fun hv hr => by
    rw [hv]
    exact finOne hr (fun _ e => by cases e)
  simp only [go_sem, seval, TxD.av, TxD.cells, ints, strs, List.length_map]
  refine ex_call (c_Num t.frm 7) ?_
  cases b1 : (decide (0 ≤ t.frm) && decide (t.frm ≤ 7))
  · simp only [go_sem, seval]
    refine fin (bad v1 (by simp at b1; omega)) ?_
    show resOf _ _ [.tmp 2] = _
    simp only [go_sem, seval]
  simp only [go_sem, seval]
  refine ex_call (c_Num t.nonce 1099511627776) ?_
  cases b2 : (decide (0 ≤ t.nonce) && decide (t.nonce ≤ 1099511627776))
  · simp only [go_sem, seval]
    refine fin (bad v2 (by simp at b2; omega)) ?_
    show resOf _ _ [.tmp 2] = _
    simp only [go_sem, seval]
  simp only [go_sem, seval]
  refine ex_call (c_Num t.gas 1073741824) ?_
  cases b3 : (decide (0 ≤ t.gas) && decide (t.gas ≤ 1073741824))
  · simp only [go_sem, seval]
    refine fin (bad v3 (by simp at b3; omega)) ?_
    show resOf _ _ [.tmp 2] = _
    simp only [go_sem, seval]
  simp only [go_sem, seval]
  refine ex_call (by exact c_ref1_Cmp t.tip t.cap h.tip h.cap) ?_
  simp only [go_sem, seval, cmp_le]
  refine ex_split (fun b4 => ?_) (fun b4 => ?_)
  case' refine_2 =>
    simp only [go_sem, seval, b4]
    refine fin (bad v4 (by simp at b4; omega)) ?_
    show resOf _ _ [.tmp 2] = _
    simp only [go_sem, seval]
  simp only [go_sem, seval]
  refine ex_call (by exact c_ref4_Fits t.hashes t.blobs h.blob) ?_
  rcases Decidable.em (fitsOf t.hashes t.blobs = 0) with b5 | b5
  case' inr =>
    have b5' : (fitsOf t.hashes t.blobs != 0) = true := by simpa using b5
    simp only [go_sem, seval, b5']
    refine fin (bad v5 b5) ?_
    show resOf _ _ [.tmp 2] = _
    simp only [go_sem, seval]
  have hl := fits_len b5
  have hgas : 0 ≤ t.gas ∧ t.gas ≤ 1073741824 := by simp at b3; omega
  simp only [go_sem, seval, b5]
  refine ex_call (by exact c_ref7_Cost t h hgas hl.2.1) ?_
  have hv : validTx t = decide (costOf t < U) := by
    rw [Bool.eq_iff_iff]
    simp only [validTx, Bool.and_eq_true, decide_eq_true_eq]
    simp at b1 b2 b4
    constructor
    · intro e; exact e.2
    · intro e; refine ⟨⟨⟨⟨⟨⟨?_, ?_⟩, ?_, ?_⟩, ?_, ?_⟩, ?_⟩, b5⟩, e⟩ <;> omega
  rw [hv]
  simp only [go_sem, seval, u]
  refine finOne ?_ (fun _ e => by cases e)
  show resOf _ _ [.tmp 2] = _
  simp only [go_sem, seval]
end Go.Proofs.Ytpepfhbfooeoeaa.VA
end
section
namespace Go.Proofs.Ytpepfhbfooeoeaa.VA
set_option maxRecDepth 10000
set_option maxHeartbeats 4000000

theorem c_CopyMarks (l : List Int) (hl : l.length * 8 ≤ reachBytes) : Contract Try.prog 78 [ints .u64 l] (.own false 1 (l.map (AV.int .u64))) := by
  unfold reachBytes at hl
  refine contract_of (C := cf 19 [0, 2, 3, 4, 8] (fun _ => [])) (cf_ok _ _ _) (fn := Try.f78) Try.func78 (by kernel_rfl) rfl (by kernel_rfl) (by simp [cf]) (plain1 (ints_plain _ l)) (by decide) (noCell (by kernel_rfl)) ?_
  simp only [go_sem, ↓reduceIte, Nat.reduceLT, Nat.reduceLeDiff, Nat.reduceAdd, Nat.reduceSub, Nat.reduceMul, Nat.reduceEqDiff, Nat.reduceBEq, Nat.reduceMod, Nat.reduceDiv, Int.reduceToNat, reduceCtorEq, Int.reduceLT, Int.reduceLE, Int.reduceGT, Int.reduceGE, Int.reduceAdd, Int.reduceSub, Int.reduceMul, Int.reduceNeg, Int.reduceEq, Int.reduceNe, Int.reduceBNe, Int.reduceBEq, Int.reduceDiv, ints, strs]
  refine ex_iter [0, 3, 4] (fun i : Nat => ⟨[(0, .sl false 1 (l.map (AV.int .u64))), (3, .own false 1 ((l.take i).map (AV.int .u64))), (4, .int .i64 i)], [], []⟩) (fun i => i ≤ l.length) (fun i => l.length - i) 0 ?_ ?_ ?_
  · simp only [ASt.keep, consIf, keepL, keepV, AV.isBot, List.contains_cons, List.contains_nil, Nat.reduceBEq, Bool.or_false, Bool.false_or, Bool.or_true, Bool.true_or, beq_self_eq_true, Bool.false_eq_true, ↓reduceIte, if_false, if_true]
    rfl
  · exact Nat.zero_le _
  · intro n i hi next
    simp only [go_sem, ↓reduceIte, Nat.reduceLT, Nat.reduceLeDiff, Nat.reduceAdd, Nat.reduceSub, Nat.reduceMul, Nat.reduceEqDiff, Nat.reduceBEq, Nat.reduceMod, Nat.reduceDiv, Int.reduceToNat, reduceCtorEq, Int.reduceLT, Int.reduceLE, Int.reduceGT, Int.reduceGE, Int.reduceAdd, Int.reduceSub, Int.reduceMul, Int.reduceNeg, Int.reduceEq, Int.reduceNe, Int.reduceBNe, Int.reduceBEq, Int.reduceDiv, List.length_map]
    refine ex_br (fun h => ?_) (fun h => ?_)
    · have hlt : i < l.length := by simpa using h
      obtain ⟨x, ex⟩ : ∃ x, l[i]? = some x := ⟨_, List.getElem?_eq_getElem hlt⟩
      simp only [go_sem, ↓reduceIte, Nat.reduceLT, Nat.reduceLeDiff, Nat.reduceAdd, Nat.reduceSub, Nat.reduceMul, Nat.reduceEqDiff, Nat.reduceBEq, Nat.reduceMod, Nat.reduceDiv, Int.reduceToNat, reduceCtorEq, Int.reduceLT, Int.reduceLE, Int.reduceGT, Int.reduceGE, Int.reduceAdd, Int.reduceSub, Int.reduceMul, Int.reduceNeg, Int.reduceEq, Int.reduceNe, Int.reduceBNe, Int.reduceBEq, Int.reduceDiv, List.length_map, List.getElem?_map, ex, Int.toNat_natCast]
      repeat with_reducible refine And.intro (by first | omega | (simp only [List.length_cons, List.length_append, List.length_nil, List.length_map, List.length_take, List.length_drop, List.length_set]; omega)) ?_
      refine next (i + 1) _ (by omega) (by omega) ?_
      rw [← wi64_nat i (by omega), ← take_snoc _ ex]
      simp only [ASt.keep, consIf, keepL, keepV, AV.isBot, List.contains_cons, List.contains_nil, Nat.reduceBEq, Bool.or_false, Bool.false_or, Bool.or_true, Bool.true_or, beq_self_eq_true, Bool.false_eq_true, ↓reduceIte, if_false, if_true]
    · have hge : i = l.length := by simp at h; omega
      subst hge
      simp only [go_sem, ↓reduceIte, Nat.reduceLT, Nat.reduceLeDiff, Nat.reduceAdd, Nat.reduceSub, Nat.reduceMul, Nat.reduceEqDiff, Nat.reduceBEq, Nat.reduceMod, Nat.reduceDiv, Int.reduceToNat, reduceCtorEq, Int.reduceLT, Int.reduceLE, Int.reduceGT, Int.reduceGE, Int.reduceAdd, Int.reduceSub, Int.reduceMul, Int.reduceNeg, Int.reduceEq, Int.reduceNe, Int.reduceBNe, Int.reduceBEq, Int.reduceDiv, List.take_length]
      refine finOne ?_ (fun _ e => by cases e)
      show resOf _ _ [.tmp 2] = _
      simp only [go_sem, ↓reduceIte, Nat.reduceLT, Nat.reduceLeDiff, Nat.reduceAdd, Nat.reduceSub, Nat.reduceMul, Nat.reduceEqDiff, Nat.reduceBEq, Nat.reduceMod, Nat.reduceDiv, Int.reduceToNat, reduceCtorEq, Int.reduceLT, Int.reduceLE, Int.reduceGT, Int.reduceGE, Int.reduceAdd, Int.reduceSub, Int.reduceMul, Int.reduceNeg, Int.reduceEq, Int.reduceNe, Int.reduceBNe, Int.reduceBEq, Int.reduceDiv]

theorem c_CopyStrings (l : List (List UInt8)) (hl : l.length * 16 ≤ reachBytes) : Contract Try.prog 79 [strs l] (.own false 1 (l.map AV.str)) := by
  unfold reachBytes at hl
  refine contract_of (C := cf 19 [0, 2, 3, 4, 8] (fun _ => [])) (cf_ok _ _ _) (fn := Try.f79) Try.func79 (by kernel_rfl) rfl (by kernel_rfl) (by simp [cf]) (plain1 (strs_plain l)) (by decide) (noCell (by kernel_rfl)) ?_
  simp only [go_sem, ↓reduceIte, Nat.reduceLT, Nat.reduceLeDiff, Nat.reduceAdd, Nat.reduceSub, Nat.reduceMul, Nat.reduceEqDiff, Nat.reduceBEq, Nat.reduceMod, Nat.reduceDiv, Int.reduceToNat, reduceCtorEq, Int.reduceLT, Int.reduceLE, Int.reduceGT, Int.reduceGE, Int.reduceAdd, Int.reduceSub, Int.reduceMul, Int.reduceNeg, Int.reduceEq, Int.reduceNe, Int.reduceBNe, Int.reduceBEq, Int.reduceDiv, ints, strs]
  refine ex_iter [0, 3, 4] (fun i : Nat => ⟨[(0, .sl false 1 (l.map AV.str)), (3, .own false 1 ((l.take i).map AV.str)), (4, .int .i64 i)], [], []⟩) (fun i => i ≤ l.length) (fun i => l.length - i) 0 ?_ ?_ ?_
  · simp only [ASt.keep, consIf, keepL, keepV, AV.isBot, List.contains_cons, List.contains_nil, Nat.reduceBEq, Bool.or_false, Bool.false_or, Bool.or_true, Bool.true_or, beq_self_eq_true, Bool.false_eq_true, ↓reduceIte, if_false, if_true]
    rfl
  · exact Nat.zero_le _
  · intro n i hi next
    simp only [go_sem, ↓reduceIte, Nat.reduceLT, Nat.reduceLeDiff, Nat.reduceAdd, Nat.reduceSub, Nat.reduceMul, Nat.reduceEqDiff, Nat.reduceBEq, Nat.reduceMod, Nat.reduceDiv, Int.reduceToNat, reduceCtorEq, Int.reduceLT, Int.reduceLE, Int.reduceGT, Int.reduceGE, Int.reduceAdd, Int.reduceSub, Int.reduceMul, Int.reduceNeg, Int.reduceEq, Int.reduceNe, Int.reduceBNe, Int.reduceBEq, Int.reduceDiv, List.length_map]
    refine ex_br (fun h => ?_) (fun h => ?_)
    · have hlt : i < l.length := by simpa using h
      obtain ⟨x, ex⟩ : ∃ x, l[i]? = some x := ⟨_, List.getElem?_eq_getElem hlt⟩
      simp only [go_sem, ↓reduceIte, Nat.reduceLT, Nat.reduceLeDiff, Nat.reduceAdd, Nat.reduceSub, Nat.reduceMul, Nat.reduceEqDiff, Nat.reduceBEq, Nat.reduceMod, Nat.reduceDiv, Int.reduceToNat, reduceCtorEq, Int.reduceLT, Int.reduceLE, Int.reduceGT, Int.reduceGE, Int.reduceAdd, Int.reduceSub, Int.reduceMul, Int.reduceNeg, Int.reduceEq, Int.reduceNe, Int.reduceBNe, Int.reduceBEq, Int.reduceDiv, List.length_map, List.getElem?_map, ex, Int.toNat_natCast]
      repeat with_reducible refine And.intro (by first | omega | (simp only [List.length_cons, List.length_append, List.length_nil, List.length_map, List.length_take, List.length_drop, List.length_set]; omega)) ?_
      refine next (i + 1) _ (by omega) (by omega) ?_
      rw [← wi64_nat i (by omega), ← take_snoc _ ex]
      simp only [ASt.keep, consIf, keepL, keepV, AV.isBot, List.contains_cons, List.contains_nil, Nat.reduceBEq, Bool.or_false, Bool.false_or, Bool.or_true, Bool.true_or, beq_self_eq_true, Bool.false_eq_true, ↓reduceIte, if_false, if_true]
    · have hge : i = l.length := by simp at h; omega
      subst hge
      simp only [go_sem, ↓reduceIte, Nat.reduceLT, Nat.reduceLeDiff, Nat.reduceAdd, Nat.reduceSub, Nat.reduceMul, Nat.reduceEqDiff, Nat.reduceBEq, Nat.reduceMod, Nat.reduceDiv, Int.reduceToNat, reduceCtorEq, Int.reduceLT, Int.reduceLE, Int.reduceGT, Int.reduceGE, Int.reduceAdd, Int.reduceSub, Int.reduceMul, Int.reduceNeg, Int.reduceEq, Int.reduceNe, Int.reduceBNe, Int.reduceBEq, Int.reduceDiv, List.take_length]
      refine finOne ?_ (fun _ e => by cases e)
      show resOf _ _ [.tmp 2] = _
      simp only [go_sem, ↓reduceIte, Nat.reduceLT, Nat.reduceLeDiff, Nat.reduceAdd, Nat.reduceSub, Nat.reduceMul, Nat.reduceEqDiff, Nat.reduceBEq, Nat.reduceMod, Nat.reduceDiv, Int.reduceToNat, reduceCtorEq, Int.reduceLT, Int.reduceLE, Int.reduceGT, Int.reduceGE, Int.reduceAdd, Int.reduceSub, Int.reduceMul, Int.reduceNeg, Int.reduceEq, Int.reduceNe, Int.reduceBNe, Int.reduceBEq, Int.reduceDiv]

end Go.Proofs.Ytpepfhbfooeoeaa.VA
end
