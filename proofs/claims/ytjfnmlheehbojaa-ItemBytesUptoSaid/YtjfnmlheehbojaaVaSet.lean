/- The laws by which the abstract machine is carried out, as one set. -/
import Derived.Test.YtjfnmlheehbojaaVaTy
import Derived.Test.YtjfnmlheehbojaaVaEval2
namespace Go.Proofs.Ytjfnmlheehbojaa.VA
attribute [go_sem] cf ex_seq ex_block ex_region ex_ops_nil ex_ops_cons ex_ok ex_need
attribute [go_sem] ex_split_t ex_split_f ex_cond ex_br_t ex_br_f ex_skip ex_label ex_scope
attribute [go_sem] ex_exit ex_ret ex_keep ex_inBlock_n ex_inBlock_same ex_inBlock_e ex_inBlock_r ex_code_e
attribute [go_sem] ex_code_r ex_rounds_e ex_rounds_r ex_ord_fin ex_ord_quiet ex_ord_one ex_ord_unlock ex_ord_lone
attribute [go_sem] ex_ol ex_oq_t ex_oq_f ex_nil quietOp loneOp eltAddr quietLoad
attribute [go_sem] quietCallee convQ u8 moveR moveTup AV.isOwn asU8 stepR
attribute [go_sem] opR ASt.rd AV.seen look AV.const AV.constC AV.constG AV.constCs
attribute [go_sem] AV.constA AV.nilOf ASt.wr Cfg.may Cfg.round roundQ AV.dropR AV.dropA
attribute [go_sem] ASt.wrTo R.chk ASt.put ASt.putOwn ins strike consIf keepL
attribute [go_sem] keepV AV.isBot startSt argsAt allocR ASt.newVar AV.leansVar AV.leans
attribute [go_sem] AV.leansComp assignR ASt.take ASt.takeO ASt.at cellAt AV.compAt ASt.drop
attribute [go_sem] ASt.setCell ASt.setCellO ASt.dropComp ASt.turn binR ASt.wrO binInt binAgg
attribute [go_sem] isBoolK isIntK isSliceK isFuncK isInts AV.eqInts unVal buildGo
attribute [go_sem] partAt partIn placeOf buildEnd elemIn elemsGo elemsEnd bsR
attribute [go_sem] argOwnRef argOwn argImm argsGo callEnd ASt.wrResTo ASt.wrRes pickR
attribute [go_sem] boxR loadOne loadVar wrImm aggPart AV.isAggV loadElem loadElt
attribute [go_sem] loadR storeOwn AV.redir redir storeAl storeRef storeCells storeVar
attribute [go_sem] storePart storeRow storeElt storeR isU8 convBytes convCont convR
attribute [go_sem] makeR optI cutSl cutImm cutStr delV ASt.freeVar mkFnR
attribute [go_sem] capR capV cutArr cutR addrR structF fieldR idxSl
attribute [go_sem] idxAddrR idxR extrOne extrR lenCont lenR appSrc appRef
attribute [go_sem] appTo appR maxR fnOf appKind callFn callLen callApp
attribute [go_sem] callMax callR grdO grdT TI.zeroVal TK.isAgg TK.known Loc.plain
attribute [go_sem] ASt.keep ASt.imm ASt.immRef AV.isImm AV.flat AV.frz AV.frz0 AV.mark
attribute [go_sem] AV.elemsOf AV.elemsO ASt.cont markFrom putAt resOf resTup resAll
attribute [go_sem] resCons resOne resVar resCells resTmp decide_true decide_false Bool.and_true
attribute [go_sem] Bool.true_and Bool.and_false Bool.false_and Bool.and_self Bool.not_true Bool.not_false bq_t bq_f
attribute [go_sem] Bool.false_eq_true Bool.true_eq_false Nat.lt_irrefl Nat.zero_add Nat.add_zero Nat.mul_one Nat.zero_mul Nat.mul_zero
attribute [go_sem] Nat.zero_le Nat.le_refl Nat.beq List.length_cons List.length_nil Option.isNone_none Option.isNone_some Option.bind_some
attribute [go_sem] Option.bind_none Option.map_some Option.map_none List.getElem?_cons_zero List.getElem?_cons_succ List.getElem?_nil List.take_succ_cons List.take_zero
attribute [go_sem] List.take_nil List.drop_succ_cons List.drop_zero List.drop_nil List.map_cons List.map_nil List.cons_append List.nil_append
attribute [go_sem] List.append_nil List.set_cons_zero List.set_cons_succ List.headD_cons List.headD_nil List.tail_cons List.tail_nil List.contains_cons
attribute [go_sem] List.contains_nil Bool.or_false Bool.false_or Bool.or_true Bool.true_or BEq.rfl beq_self_eq_true List.replicate_zero
attribute [go_sem] List.replicate_succ List.isEmpty_nil List.size_toArray Array.isEmpty List.reverse_nil List.all_cons List.all_nil eq_self
attribute [go_sem] true_and and_true false_and and_false and_self not_true_eq_false not_false_eq_true Loc.tmp.injEq
attribute [go_sem] Loc.cell.injEq Loc.comp.injEq or_true true_or or_false false_or exists_const Option.isSome_some
attribute [go_sem] Option.isSome_none ne_eq Int.toNat_zero forall_const Nat.not_lt_zero Nat.lt_add_one ti1 ti2
attribute [go_sem] ti3 ti4 ti5 ti6 ti7 ti8 ti9 ti10
attribute [go_sem] ti11 ti12 ti13 ti14 ti21 ti22 ti23 ti25
attribute [go_sem] ti26 ti27 ti28 ti29 ti30 ti31 ti32 ti33
attribute [go_sem] ti34 ti36 ti37 ti38 ti40 ti41 ti42 ti43
attribute [go_sem] ti44 ti45 ti46 ti47 ti48 ti49 ti50 ti51
attribute [go_sem] ti52 ti53 ti54 ti55 ti56 ti57 ti59 ti61
attribute [go_sem] ti62 ti63 ti64 ti65 ti66 ti68 ti70 ti71
attribute [go_sem] ti73 ti74 ti75 ti76 ti77 ti78 ti79 ti81
attribute [go_sem] ti82 ti83 ti84 ti85 ti86 ti87 ti88 ti89
attribute [go_sem] ti90 ti91 ti92 ti93 ti95 ti96 ti97 ti98
attribute [go_sem] ti99 ti100 ti102 ti103 ti104 ti105 ti106 ti107
attribute [go_sem] ti113 ti114 ti115 ti116 ti117 ti119 ti120
end Go.Proofs.Ytjfnmlheehbojaa.VA
