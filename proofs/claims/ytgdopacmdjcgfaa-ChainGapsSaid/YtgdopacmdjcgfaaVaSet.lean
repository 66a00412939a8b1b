/- The laws by which the abstract machine is carried out, as one set. -/
import Derived.Test.YtgdopacmdjcgfaaVaTy
import Derived.Test.YtgdopacmdjcgfaaVaEval2
namespace Go.Proofs.Ytgdopacmdjcgfaa.VA
attribute [go_sem] cf ex_seq ex_block ex_region ex_ops_nil ex_ops_cons ex_ok ex_need
attribute [go_sem] ex_split_t ex_split_f ex_cond ex_br_t ex_br_f ex_skip ex_label ex_scope
attribute [go_sem] ex_exit ex_ret ex_keep ex_inBlock_n ex_inBlock_same ex_inBlock_e ex_inBlock_r ex_code_e
attribute [go_sem] ex_code_r ex_rounds_e ex_rounds_r ex_ord_fin ex_ord_quiet ex_ord_one ex_ord_unlock ex_ord_lone
attribute [go_sem] ex_ol ex_oq_t ex_oq_f ex_nil quietOp loneOp eltAddr quietLoad
attribute [go_sem] quietCallee convQ u8 moveR moveTup AV.isOwn asU8 stepR
attribute [go_sem] opR ASt.rd AV.seen look AV.const AV.nilOf ASt.wr ASt.wrTo
attribute [go_sem] R.chk ASt.put ASt.putOwn ins strike consIf keepL keepV
attribute [go_sem] AV.isBot startSt argsAt allocR ASt.newVar AV.leansVar AV.leans AV.leansComp
attribute [go_sem] assignR ASt.take ASt.takeO ASt.at cellAt AV.compAt ASt.drop ASt.setCell
attribute [go_sem] ASt.setCellO ASt.dropComp ASt.turn binR ASt.wrO binInt binAgg isBoolK
attribute [go_sem] isIntK isSliceK isInts AV.eqInts unVal buildGo partAt partIn
attribute [go_sem] placeOf buildEnd elemIn elemsGo elemsEnd bsR argOwnRef argOwn
attribute [go_sem] argImm argsGo callEnd ASt.wrResTo ASt.wrRes pickR boxR loadOne
attribute [go_sem] loadVar wrImm aggPart AV.isAggV loadElem loadElt loadR storeOwn
attribute [go_sem] storeRef storeCells storeVar storePart storeRow storeElt storeR isU8
attribute [go_sem] convBytes convCont convR makeR optI cutSl cutImm cutStr
attribute [go_sem] delV ASt.freeVar cutArr cutR addrR structF fieldR idxSl
attribute [go_sem] idxAddrR idxR extrOne extrR lenCont lenR appSrc appRef
attribute [go_sem] appTo appR maxR fnOf appKind callFn callLen callApp
attribute [go_sem] callMax callR grdO grdT TI.zeroVal TK.isAgg TK.known Loc.plain
attribute [go_sem] ASt.keep ASt.imm ASt.immRef AV.isImm AV.flat AV.frz AV.mark AV.elemsOf
attribute [go_sem] AV.elemsO ASt.cont markFrom putAt resOf resTup resAll resCons
attribute [go_sem] resOne resVar resCells resTmp decide_true decide_false Bool.and_true Bool.true_and
attribute [go_sem] Bool.and_false Bool.false_and Bool.and_self Bool.not_true Bool.not_false bq_t bq_f Bool.false_eq_true
attribute [go_sem] Bool.true_eq_false Nat.lt_irrefl Nat.zero_add Nat.add_zero Nat.mul_one Nat.zero_mul Nat.mul_zero Nat.zero_le
attribute [go_sem] Nat.le_refl Nat.beq List.length_cons List.length_nil Option.isNone_none Option.isNone_some Option.bind_some Option.bind_none
attribute [go_sem] Option.map_some Option.map_none List.getElem?_cons_zero List.getElem?_cons_succ List.getElem?_nil List.take_succ_cons List.take_zero List.take_nil
attribute [go_sem] List.drop_succ_cons List.drop_zero List.drop_nil List.map_cons List.map_nil List.cons_append List.nil_append List.append_nil
attribute [go_sem] List.set_cons_zero List.set_cons_succ List.headD_cons List.headD_nil List.tail_cons List.tail_nil List.contains_cons List.contains_nil
attribute [go_sem] Bool.or_false Bool.false_or Bool.or_true Bool.true_or BEq.rfl beq_self_eq_true List.replicate_zero List.replicate_succ
attribute [go_sem] List.isEmpty_nil List.size_toArray Array.isEmpty List.reverse_nil List.all_cons List.all_nil eq_self true_and
attribute [go_sem] and_true false_and and_false and_self not_true_eq_false not_false_eq_true Loc.tmp.injEq Loc.cell.injEq
attribute [go_sem] Loc.comp.injEq or_true true_or or_false false_or exists_const Option.isSome_some Option.isSome_none
attribute [go_sem] ne_eq Int.toNat_zero forall_const Nat.not_lt_zero Nat.lt_add_one ti1 ti2 ti3
attribute [go_sem] ti4 ti5 ti6 ti7 ti8 ti9 ti10 ti11
attribute [go_sem] ti12 ti13 ti14 ti21 ti22 ti23 ti24 ti25
attribute [go_sem] ti26 ti27 ti28 ti29 ti30 ti31 ti32 ti33
attribute [go_sem] ti34 ti35 ti36 ti37 ti38 ti39 ti40 ti41
attribute [go_sem] ti42 ti44 ti45 ti47 ti48 ti49 ti50 ti51
attribute [go_sem] ti53 ti55 ti56 ti57 ti58 ti60 ti62 ti63
attribute [go_sem] ti64 ti65 ti66 ti67 ti68 ti69 ti70 ti71
attribute [go_sem] ti72 ti74 ti76 ti77 ti78 ti79 ti80 ti81
attribute [go_sem] ti82 ti83 ti84 ti85 ti86 ti87 ti88 ti89
attribute [go_sem] ti90 ti91 ti92 ti93 ti95 ti96 ti97 ti98
attribute [go_sem] ti99 ti100 ti101 ti102 ti103 ti104 ti105 ti106
attribute [go_sem] ti107 ti108 ti109 ti110 ti111 ti112 ti114 ti115
attribute [go_sem] ti117 ti119 ti120 ti121 ti122 ti123 ti124 ti125
attribute [go_sem] ti126 ti127 ti128 ti129 ti130 ti132 ti133 ti134
attribute [go_sem] ti135 ti136 ti137 ti138 ti139 ti140 ti141 ti142
attribute [go_sem] ti143 ti144 ti145 ti151 ti152 ti153 ti154 ti155
attribute [go_sem] ti157 ti158
end Go.Proofs.Ytgdopacmdjcgfaa.VA
