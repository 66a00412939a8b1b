/- Items' bytes: what is laid. -/
import Derived.Test.YtjfnmlheehbojaaCItem6
namespace Go.Proofs.Ytjfnmlheehbojaa.VA
set_option maxRecDepth 10000
set_option linter.unusedSimpArgs false
set_option linter.unusedVariables false
set_option maxHeartbeats 1000000

def bytesAv (bs : List UInt8) : AV := .own false 1 (bs.map u8)
theorem bytesAv_plain (bs : List UInt8) : Plain (bytesAv bs) := .own _ _ _ (fun c hc => by obtain ⟨x, _, rfl⟩ := List.mem_map.1 hc; exact .int _ _)
def ownL (f : FuncId) : List Nat := if Nat.beq f 56 = true then [0] else if Nat.beq f 63 = true then [0] else []
theorem ownL_laid : ownL 56 = [0] := rfl
theorem ownL_front : ownL 63 = [0] := rfl
theorem ownL_Each : ownL 60 = [] := rfl
theorem ownL_alone : ownL 64 = [] := rfl
theorem c_laid (it : ItemD) (h : it.ok) (bs : List UInt8) (hb : bs.length ≤ 4294967296) : Contract Try.prog 56 [bytesAv bs, it.av] (bytesAv (bs ++ rawOf it)) := by
  have ih : ∀ x, x ∈ it.items → ∀ bs : List UInt8, bs.length ≤ 4294967296 → Contract Try.prog 56 [bytesAv bs, x.av] (bytesAv (bs ++ rawOf x)) := fun x hx bs hb => c_laid x (h.all x hx) bs hb
  have ht := h.text
  have hn := h.num
  have hle := rawOf_le it h
  have hok := h
  unfold ItemD.ok at hok
  cases hl : it.list with
  | false =>
    refine contract_of (C := cf 36 [0, 3, 4, 5, 6, 7, 11, 12, 22] ( ownL)) (cf_ok _ _ _) (fn := Try.f56) Try.func56 (by kernel_rfl) rfl (by kernel_rfl) (by simp [cf]) (plain2 (bytesAv_plain bs) it.plain) (by decide) (noCell (by kernel_rfl)) ?_
    rw [rawOf_text hl]
    simp only [go_sem, ↓reduceIte, Nat.reduceLT, Nat.reduceLeDiff, Nat.reduceAdd, Nat.reduceSub, Nat.reduceMul, Nat.reduceEqDiff, Nat.reduceBEq, Nat.reduceMod, Nat.reduceDiv, Int.reduceToNat, reduceCtorEq, Int.reduceLT, Int.reduceLE, Int.reduceGT, Int.reduceGE, Int.reduceAdd, Int.reduceSub, Int.reduceMul, Int.reduceNeg, Int.reduceEq, Int.reduceNe, Int.reduceBNe, Int.reduceBEq, Int.reduceDiv, bytesAv, ItemD.av_eq, ItemD.cells, hl, ownL_laid, ownL_front, ownL_Each, ownL_alone]
    refine ex_call (by exact c_item_alone it.text (by omega)) ?_
    cases ha : aloneB it.text with
    | true =>
      rw [if_pos rfl]
      simp only [go_sem, ↓reduceIte, Nat.reduceLT, Nat.reduceLeDiff, Nat.reduceAdd, Nat.reduceSub, Nat.reduceMul, Nat.reduceEqDiff, Nat.reduceBEq, Nat.reduceMod, Nat.reduceDiv, Int.reduceToNat, reduceCtorEq, Int.reduceLT, Int.reduceLE, Int.reduceGT, Int.reduceGE, Int.reduceAdd, Int.reduceSub, Int.reduceMul, Int.reduceNeg, Int.reduceEq, Int.reduceNe, Int.reduceBNe, Int.reduceBEq, Int.reduceDiv, List.length_map]
      repeat with_reducible refine And.intro (by first | omega | (simp only [List.length_cons, List.length_append, List.length_nil, List.length_map, List.length_take, List.length_drop, List.length_set]; omega)) ?_
      refine finOne ?_ (fun _ e => by cases e)
      show resOf _ _ [.tmp 4] = _
      simp only [go_sem, ↓reduceIte, Nat.reduceLT, Nat.reduceLeDiff, Nat.reduceAdd, Nat.reduceSub, Nat.reduceMul, Nat.reduceEqDiff, Nat.reduceBEq, Nat.reduceMod, Nat.reduceDiv, Int.reduceToNat, reduceCtorEq, Int.reduceLT, Int.reduceLE, Int.reduceGT, Int.reduceGE, Int.reduceAdd, Int.reduceSub, Int.reduceMul, Int.reduceNeg, Int.reduceEq, Int.reduceNe, Int.reduceBNe, Int.reduceBEq, Int.reduceDiv, List.map_append]
    | false =>
      rw [if_neg (by simp)]
      have hh := headB_len it.text.length 128
      have hah := ahead_le (n := it.text.length) (by omega)
      simp only [go_sem, ↓reduceIte, Nat.reduceLT, Nat.reduceLeDiff, Nat.reduceAdd, Nat.reduceSub, Nat.reduceMul, Nat.reduceEqDiff, Nat.reduceBEq, Nat.reduceMod, Nat.reduceDiv, Int.reduceToNat, reduceCtorEq, Int.reduceLT, Int.reduceLE, Int.reduceGT, Int.reduceGE, Int.reduceAdd, Int.reduceSub, Int.reduceMul, Int.reduceNeg, Int.reduceEq, Int.reduceNe, Int.reduceBNe, Int.reduceBEq, Int.reduceDiv, ownL_laid, ownL_front, ownL_Each, ownL_alone]
      refine ex_call (by exact c_item_front bs 128 it.text.length (by omega) (by omega) (by omega)) ?_
      simp only [go_sem, ↓reduceIte, Nat.reduceLT, Nat.reduceLeDiff, Nat.reduceAdd, Nat.reduceSub, Nat.reduceMul, Nat.reduceEqDiff, Nat.reduceBEq, Nat.reduceMod, Nat.reduceDiv, Int.reduceToNat, reduceCtorEq, Int.reduceLT, Int.reduceLE, Int.reduceGT, Int.reduceGE, Int.reduceAdd, Int.reduceSub, Int.reduceMul, Int.reduceNeg, Int.reduceEq, Int.reduceNe, Int.reduceBNe, Int.reduceBEq, Int.reduceDiv, List.length_map, List.length_append]
      repeat with_reducible refine And.intro (by first | omega | (simp only [List.length_cons, List.length_append, List.length_nil, List.length_map, List.length_take, List.length_drop, List.length_set]; omega)) ?_
      refine finOne ?_ (fun _ e => by cases e)
      show resOf _ _ [.tmp 4] = _
      simp only [go_sem, ↓reduceIte, Nat.reduceLT, Nat.reduceLeDiff, Nat.reduceAdd, Nat.reduceSub, Nat.reduceMul, Nat.reduceEqDiff, Nat.reduceBEq, Nat.reduceMod, Nat.reduceDiv, Int.reduceToNat, reduceCtorEq, Int.reduceLT, Int.reduceLE, Int.reduceGT, Int.reduceGE, Int.reduceAdd, Int.reduceSub, Int.reduceMul, Int.reduceNeg, Int.reduceEq, Int.reduceNe, Int.reduceBNe, Int.reduceBEq, Int.reduceDiv, List.map_append, List.append_assoc]
  | true =>
    have heach : eachOf it = it.items.map ItemD.av := by unfold eachOf; rw [hl]; rfl
    have hce := c_Each it
    rw [ItemD.av_eq] at hce
    rw [rawOf_list hl]
    rw [rawOf_list hl, List.length_append] at hle
    refine contract_of (C := cf 36 [0, 3, 4, 5, 6, 7, 11, 12, 22] ( ownL)) (cf_ok _ _ _) (fn := Try.f56) Try.func56 (by kernel_rfl) rfl (by kernel_rfl) (by simp [cf]) (plain2 (bytesAv_plain bs) it.plain) (by decide) (noCell (by kernel_rfl)) ?_
    simp only [go_sem, ↓reduceIte, Nat.reduceLT, Nat.reduceLeDiff, Nat.reduceAdd, Nat.reduceSub, Nat.reduceMul, Nat.reduceEqDiff, Nat.reduceBEq, Nat.reduceMod, Nat.reduceDiv, Int.reduceToNat, reduceCtorEq, Int.reduceLT, Int.reduceLE, Int.reduceGT, Int.reduceGE, Int.reduceAdd, Int.reduceSub, Int.reduceMul, Int.reduceNeg, Int.reduceEq, Int.reduceNe, Int.reduceBNe, Int.reduceBEq, Int.reduceDiv, bytesAv, ItemD.av_eq, ItemD.cells, hl, ownL_laid, ownL_front, ownL_Each, ownL_alone]
    refine ex_call (by simpa only [ItemD.cells, hl] using hce) ?_
    simp only [go_sem, ↓reduceIte, Nat.reduceLT, Nat.reduceLeDiff, Nat.reduceAdd, Nat.reduceSub, Nat.reduceMul, Nat.reduceEqDiff, Nat.reduceBEq, Nat.reduceMod, Nat.reduceDiv, Int.reduceToNat, reduceCtorEq, Int.reduceLT, Int.reduceLE, Int.reduceGT, Int.reduceGE, Int.reduceAdd, Int.reduceSub, Int.reduceMul, Int.reduceNeg, Int.reduceEq, Int.reduceNe, Int.reduceBNe, Int.reduceBEq, Int.reduceDiv, ItemD.cells, hl]
    refine ex_range [5] 12 (cloP 67 it.cells) (eachOf it) (fun i => [(5, [bytesAv (raws (it.items.take i))])]) ⟨rfl, rfl, rfl, by decide, by decide, rfl, ?_, iter_each it h, by rw [List.take_zero, raws_nil]; rfl⟩ (fun i x hx => ?_) ?_
    · show AV.ext _ = AV.ext (cloP _ it.cells)
      rw [ItemD.cells, hl]
    · obtain ⟨y, ey, rfl⟩ : ∃ y, it.items[i]? = some y ∧ y.av = x := by
        rw [heach, List.getElem?_map, Option.map_eq_some_iff] at hx
        exact hx
      have hm := List.mem_of_getElem? ey
      have hsnoc : raws (it.items.take i) ++ rawOf y = raws (it.items.take (i + 1)) := by
        rw [List.take_add_one, ey]
        show _ = raws (_ ++ [y])
        rw [raws_append, raws_cons, raws_nil, List.append_nil]
      have hpre : (raws (it.items.take (i + 1))).length ≤ (raws it.items).length := by
        conv => rhs; rw [← List.take_append_drop (i + 1) it.items, raws_append, List.length_append]
        omega
      have hy := ih y hm (raws (it.items.take i)) (by rw [← hsnoc, List.length_append] at hpre; omega)
      rw [hsnoc, y.av_eq] at hy
      rw [y.av_eq]
      refine ⟨rfl, ?_⟩
      simp only [go_sem, ↓reduceIte, Nat.reduceLT, Nat.reduceLeDiff, Nat.reduceAdd, Nat.reduceSub, Nat.reduceMul, Nat.reduceEqDiff, Nat.reduceBEq, Nat.reduceMod, Nat.reduceDiv, Int.reduceToNat, reduceCtorEq, Int.reduceLT, Int.reduceLE, Int.reduceGT, Int.reduceGE, Int.reduceAdd, Int.reduceSub, Int.reduceMul, Int.reduceNeg, Int.reduceEq, Int.reduceNe, Int.reduceBNe, Int.reduceBEq, Int.reduceDiv, cellsI_len, bytesAv, ItemD.cells, ownL_laid, ownL_front, ownL_Each, ownL_alone]
      refine ex_call (by exact hy) ?_
      simp only [go_sem, ↓reduceIte, Nat.reduceLT, Nat.reduceLeDiff, Nat.reduceAdd, Nat.reduceSub, Nat.reduceMul, Nat.reduceEqDiff, Nat.reduceBEq, Nat.reduceMod, Nat.reduceDiv, Int.reduceToNat, reduceCtorEq, Int.reduceLT, Int.reduceLE, Int.reduceGT, Int.reduceGE, Int.reduceAdd, Int.reduceSub, Int.reduceMul, Int.reduceNeg, Int.reduceEq, Int.reduceNe, Int.reduceBNe, Int.reduceBEq, Int.reduceDiv, bytesAv]
    · rw [heach, List.length_map, List.take_length]
      have hh := headB_len (raws it.items).length 192
      have hah := ahead_le (n := (raws it.items).length) (by omega)
      simp only [go_sem, ↓reduceIte, Nat.reduceLT, Nat.reduceLeDiff, Nat.reduceAdd, Nat.reduceSub, Nat.reduceMul, Nat.reduceEqDiff, Nat.reduceBEq, Nat.reduceMod, Nat.reduceDiv, Int.reduceToNat, reduceCtorEq, Int.reduceLT, Int.reduceLE, Int.reduceGT, Int.reduceGE, Int.reduceAdd, Int.reduceSub, Int.reduceMul, Int.reduceNeg, Int.reduceEq, Int.reduceNe, Int.reduceBNe, Int.reduceBEq, Int.reduceDiv, bytesAv]
      refine ex_draw [] [] (.quiet 0 (.quiet 1 (.quiet 2 (.quiet 4 (.one 3 (.one 5 (.quiet 6 (.fin)))))))) (by kernel_rfl) ?_
      simp only [go_sem, ↓reduceIte, Nat.reduceLT, Nat.reduceLeDiff, Nat.reduceAdd, Nat.reduceSub, Nat.reduceMul, Nat.reduceEqDiff, Nat.reduceBEq, Nat.reduceMod, Nat.reduceDiv, Int.reduceToNat, reduceCtorEq, Int.reduceLT, Int.reduceLE, Int.reduceGT, Int.reduceGE, Int.reduceAdd, Int.reduceSub, Int.reduceMul, Int.reduceNeg, Int.reduceEq, Int.reduceNe, Int.reduceBNe, Int.reduceBEq, Int.reduceDiv, bytesAv, List.length_map, ownL_laid, ownL_front, ownL_Each, ownL_alone]
      refine ex_call (by exact c_item_front bs 192 (raws it.items).length (by omega) (by omega) (by omega)) ?_
      simp only [go_sem, ↓reduceIte, Nat.reduceLT, Nat.reduceLeDiff, Nat.reduceAdd, Nat.reduceSub, Nat.reduceMul, Nat.reduceEqDiff, Nat.reduceBEq, Nat.reduceMod, Nat.reduceDiv, Int.reduceToNat, reduceCtorEq, Int.reduceLT, Int.reduceLE, Int.reduceGT, Int.reduceGE, Int.reduceAdd, Int.reduceSub, Int.reduceMul, Int.reduceNeg, Int.reduceEq, Int.reduceNe, Int.reduceBNe, Int.reduceBEq, Int.reduceDiv, bytesAv, List.length_map, List.length_append]
      refine ⟨by omega, ?_⟩
      refine finOne ?_ (fun _ e => by cases e)
      show resOf _ _ [.tmp 4] = _
      simp only [go_sem, ↓reduceIte, Nat.reduceLT, Nat.reduceLeDiff, Nat.reduceAdd, Nat.reduceSub, Nat.reduceMul, Nat.reduceEqDiff, Nat.reduceBEq, Nat.reduceMod, Nat.reduceDiv, Int.reduceToNat, reduceCtorEq, Int.reduceLT, Int.reduceLE, Int.reduceGT, Int.reduceGE, Int.reduceAdd, Int.reduceSub, Int.reduceMul, Int.reduceNeg, Int.reduceEq, Int.reduceNe, Int.reduceBNe, Int.reduceBEq, Int.reduceDiv, List.map_append, List.append_assoc]
termination_by SizeOf.sizeOf it
decreasing_by exact item_lt hx
theorem ownL_Check : ownL 44 = [] := rfl
def bytesI (it : ItemD) : List UInt8 := if okI 0 it = true then rawOf it else []
theorem c_item_Bytes (it : ItemD) (h : it.ok) : Contract Try.prog 41 [it.av] (.tup [.str (bytesI it), .int .i64 (if okI 0 it = true then 0 else 1)]) := by
  have hc := c_item_Check it h
  have hl := c_laid it h [] (by simp)
  rw [ItemD.av_eq] at hc hl
  unfold bytesAv at hl
  rw [List.nil_append] at hl
  unfold bytesI
  refine contract_of (C := cf 13 [1, 2, 3, 4, 8] ( ownL)) (cf_ok _ _ _) (fn := Try.f41) Try.func41 (by kernel_rfl) rfl (by kernel_rfl) (by simp [cf]) (plain1 it.plain) (by decide) (noCell (by kernel_rfl)) ?_
  cases ho : okI 0 it with
  | true =>
    rw [ho] at hc
    simp only [go_sem, ↓reduceIte, Nat.reduceLT, Nat.reduceLeDiff, Nat.reduceAdd, Nat.reduceSub, Nat.reduceMul, Nat.reduceEqDiff, Nat.reduceBEq, Nat.reduceMod, Nat.reduceDiv, Int.reduceToNat, reduceCtorEq, Int.reduceLT, Int.reduceLE, Int.reduceGT, Int.reduceGE, Int.reduceAdd, Int.reduceSub, Int.reduceMul, Int.reduceNeg, Int.reduceEq, Int.reduceNe, Int.reduceBNe, Int.reduceBEq, Int.reduceDiv, ItemD.av_eq, ItemD.cells, ownL_Check]
    refine ex_call (by exact hc) ?_
    simp only [go_sem, ↓reduceIte, Nat.reduceLT, Nat.reduceLeDiff, Nat.reduceAdd, Nat.reduceSub, Nat.reduceMul, Nat.reduceEqDiff, Nat.reduceBEq, Nat.reduceMod, Nat.reduceDiv, Int.reduceToNat, reduceCtorEq, Int.reduceLT, Int.reduceLE, Int.reduceGT, Int.reduceGE, Int.reduceAdd, Int.reduceSub, Int.reduceMul, Int.reduceNeg, Int.reduceEq, Int.reduceNe, Int.reduceBNe, Int.reduceBEq, Int.reduceDiv, ownL_laid]
    refine ex_call (by exact hl) ?_
    simp only [go_sem, ↓reduceIte, Nat.reduceLT, Nat.reduceLeDiff, Nat.reduceAdd, Nat.reduceSub, Nat.reduceMul, Nat.reduceEqDiff, Nat.reduceBEq, Nat.reduceMod, Nat.reduceDiv, Int.reduceToNat, reduceCtorEq, Int.reduceLT, Int.reduceLE, Int.reduceGT, Int.reduceGE, Int.reduceAdd, Int.reduceSub, Int.reduceMul, Int.reduceNeg, Int.reduceEq, Int.reduceNe, Int.reduceBNe, Int.reduceBEq, Int.reduceDiv, asU8_map]
    refine finTup ?_
    show resOf _ _ [.tmp 2, .tmp 3] = _
    simp only [go_sem, ↓reduceIte, Nat.reduceLT, Nat.reduceLeDiff, Nat.reduceAdd, Nat.reduceSub, Nat.reduceMul, Nat.reduceEqDiff, Nat.reduceBEq, Nat.reduceMod, Nat.reduceDiv, Int.reduceToNat, reduceCtorEq, Int.reduceLT, Int.reduceLE, Int.reduceGT, Int.reduceGE, Int.reduceAdd, Int.reduceSub, Int.reduceMul, Int.reduceNeg, Int.reduceEq, Int.reduceNe, Int.reduceBNe, Int.reduceBEq, Int.reduceDiv]
  | false =>
    rw [ho] at hc
    simp only [go_sem, ↓reduceIte, Nat.reduceLT, Nat.reduceLeDiff, Nat.reduceAdd, Nat.reduceSub, Nat.reduceMul, Nat.reduceEqDiff, Nat.reduceBEq, Nat.reduceMod, Nat.reduceDiv, Int.reduceToNat, reduceCtorEq, Int.reduceLT, Int.reduceLE, Int.reduceGT, Int.reduceGE, Int.reduceAdd, Int.reduceSub, Int.reduceMul, Int.reduceNeg, Int.reduceEq, Int.reduceNe, Int.reduceBNe, Int.reduceBEq, Int.reduceDiv, ItemD.av_eq, ItemD.cells, ownL_Check]
    refine ex_call (by exact hc) ?_
    simp only [go_sem, ↓reduceIte, Nat.reduceLT, Nat.reduceLeDiff, Nat.reduceAdd, Nat.reduceSub, Nat.reduceMul, Nat.reduceEqDiff, Nat.reduceBEq, Nat.reduceMod, Nat.reduceDiv, Int.reduceToNat, reduceCtorEq, Int.reduceLT, Int.reduceLE, Int.reduceGT, Int.reduceGE, Int.reduceAdd, Int.reduceSub, Int.reduceMul, Int.reduceNeg, Int.reduceEq, Int.reduceNe, Int.reduceBNe, Int.reduceBEq, Int.reduceDiv]
    refine finTup ?_
    show resOf _ _ [.tmp 2, .tmp 3] = _
    simp only [go_sem, ↓reduceIte, Nat.reduceLT, Nat.reduceLeDiff, Nat.reduceAdd, Nat.reduceSub, Nat.reduceMul, Nat.reduceEqDiff, Nat.reduceBEq, Nat.reduceMod, Nat.reduceDiv, Int.reduceToNat, reduceCtorEq, Int.reduceLT, Int.reduceLE, Int.reduceGT, Int.reduceGE, Int.reduceAdd, Int.reduceSub, Int.reduceMul, Int.reduceNeg, Int.reduceEq, Int.reduceNe, Int.reduceBNe, Int.reduceBEq, Int.reduceDiv]
theorem c_law4_wakes : Contract Try.prog 46 [] (.bool true) := by
  have hb := c_item_Bytes (.mk true [] [.mk false [97] [], .mk false [] []]) (by unfold ItemD.ok; decide +kernel)
  have hbs : bytesI (.mk true [] [.mk false [97] [], .mk false [] []]) = [194, 97, 128] := by decide +kernel
  have ho : okI 0 (.mk true [] [.mk false [97] [], .mk false [] []]) = true := by decide +kernel
  have hav : (ItemD.mk true [] [.mk false [97] [], .mk false [] []]).av = .agg [.bool true, .str [], .sl false 3 [.agg [.bool false, .str [97], .sl false 3 []], .agg [.bool false, .str [], .sl false 3 []]]] := by
    simp only [ItemD.av, ItemD.avs]
  rw [hbs, ho, hav] at hb
  have leaf : ∀ s : List UInt8, Dull (.agg [.bool false, .str s, .ext nilP]) (.agg [.bool false, .str s, .sl false 3 []]) := fun s => dulls_agg (.cons (.refl _) (.cons (.refl _) (.cons (.nil _ _) .nil)))
  have hrow : Dull (.sl true 3 [.agg [.bool false, .str [97], .ext nilP], .agg [.bool false, .str [], .ext nilP]]) (.sl false 3 [.agg [.bool false, .str [97], .sl false 3 []], .agg [.bool false, .str [], .sl false 3 []]]) :=
    .sl _ _ _ _ rfl fun j x y h k => by
      match j, h, k with
      | 0, h, k => cases h; cases k; exact leaf _
      | 1, h, k => cases h; cases k; exact leaf _
      | j + 2, h, k => cases h
  have hd : Dull (.agg [.bool true, .str [], .sl true 3 [.agg [.bool false, .str [97], .ext nilP], .agg [.bool false, .str [], .ext nilP]]]) (.agg [.bool true, .str [], .sl false 3 [.agg [.bool false, .str [97], .sl false 3 []], .agg [.bool false, .str [], .sl false 3 []]]]) :=
    dulls_agg (.cons (.refl _) (.cons (.refl _) (.cons hrow .nil)))
  refine contract_of (C := cf 18 [0, 1, 2] (fun _ => [])) (cf_ok _ _ _) (fn := Try.f46) Try.func46 (by kernel_rfl) rfl (by kernel_rfl) (by simp [cf]) (fun _ h => by cases h) (by decide) (noCell (by kernel_rfl)) ?_
  simp only [go_sem, ↓reduceIte, Nat.reduceLT, Nat.reduceLeDiff, Nat.reduceAdd, Nat.reduceSub, Nat.reduceMul, Nat.reduceEqDiff, Nat.reduceBEq, Nat.reduceMod, Nat.reduceDiv, Int.reduceToNat, reduceCtorEq, Int.reduceLT, Int.reduceLE, Int.reduceGT, Int.reduceGE, Int.reduceAdd, Int.reduceSub, Int.reduceMul, Int.reduceNeg, Int.reduceEq, Int.reduceNe, Int.reduceBNe, Int.reduceBEq, Int.reduceDiv]
  refine ex_call_dull (.cons hd .nil) (by exact hb) ?_
  simp only [go_sem, ↓reduceIte, Nat.reduceLT, Nat.reduceLeDiff, Nat.reduceAdd, Nat.reduceSub, Nat.reduceMul, Nat.reduceEqDiff, Nat.reduceBEq, Nat.reduceMod, Nat.reduceDiv, Int.reduceToNat, reduceCtorEq, Int.reduceLT, Int.reduceLE, Int.reduceGT, Int.reduceGE, Int.reduceAdd, Int.reduceSub, Int.reduceMul, Int.reduceNeg, Int.reduceEq, Int.reduceNe, Int.reduceBNe, Int.reduceBEq, Int.reduceDiv]
  refine ex_call (by exact c_law4_num 0) ?_
  simp only [go_sem, ↓reduceIte, Nat.reduceLT, Nat.reduceLeDiff, Nat.reduceAdd, Nat.reduceSub, Nat.reduceMul, Nat.reduceEqDiff, Nat.reduceBEq, Nat.reduceMod, Nat.reduceDiv, Int.reduceToNat, reduceCtorEq, Int.reduceLT, Int.reduceLE, Int.reduceGT, Int.reduceGE, Int.reduceAdd, Int.reduceSub, Int.reduceMul, Int.reduceNeg, Int.reduceEq, Int.reduceNe, Int.reduceBNe, Int.reduceBEq, Int.reduceDiv]
  refine finOne ?_ (fun _ e => by cases e)
  show resOf _ _ [.tmp 0] = _
  simp only [go_sem, ↓reduceIte, Nat.reduceLT, Nat.reduceLeDiff, Nat.reduceAdd, Nat.reduceSub, Nat.reduceMul, Nat.reduceEqDiff, Nat.reduceBEq, Nat.reduceMod, Nat.reduceDiv, Int.reduceToNat, reduceCtorEq, Int.reduceLT, Int.reduceLE, Int.reduceGT, Int.reduceGE, Int.reduceAdd, Int.reduceSub, Int.reduceMul, Int.reduceNeg, Int.reduceEq, Int.reduceNe, Int.reduceBNe, Int.reduceBEq, Int.reduceDiv]
end Go.Proofs.Ytjfnmlheehbojaa.VA
