/- Items' bytes: how long, whether they may be. -/
import Derived.Test.YtjfnmlheehbojaaCItem4
namespace Go.Proofs.Ytjfnmlheehbojaa.VA
set_option maxRecDepth 10000
set_option linter.unusedSimpArgs false
set_option linter.unusedVariables false
set_option maxHeartbeats 1000000

def longK (d : Nat) (it : ItemD) : Nat :=
  if it.list = false then (if it.items ≠ [] ∨ it.text.length > 65536 then 0 else if aloneB it.text = true then 1 else it.text.length + aheadN it.text.length)
  else if it.text ≠ [] ∨ 16 ≤ d then 0
  else if okIs (d + 1) it.items = true ∧ (raws it.items).length ≤ 65536 then (raws it.items).length + aheadN (raws it.items).length else 0
theorem longK_ok {d : Nat} {it : ItemD} (h : okI d it = true) : longK d it = (rawOf it).length := by
  unfold longK
  cases hl : it.list with
  | false =>
    rw [okI_text d hl, Bool.and_eq_true, decide_eq_true_eq, List.isEmpty_iff] at h
    rw [if_pos rfl]
    obtain ⟨h1, h2⟩ := h
    have ht : ¬ it.text.length > 65536 := by
      rw [rawOf_text hl] at h2
      split at h2
      · rename_i ha; have := alone_len ha; omega
      · rw [List.length_append] at h2; omega
    rw [if_neg (by simp [h1, ht]), rawOf_text hl]
    split
    · rename_i ha; rw [alone_len ha]
    · rw [List.length_append, headB_len]; omega
  | true =>
    rw [okI_list d hl] at h
    simp only [Bool.and_eq_true, decide_eq_true_eq, List.isEmpty_iff] at h
    obtain ⟨⟨⟨h1, h2⟩, h3⟩, h4⟩ := h
    rw [if_neg (by simp), if_neg (by simp [h1]; omega), rawOf_list hl, List.length_append, headB_len]
    rw [rawOf_list hl, List.length_append] at h4
    rw [if_pos ⟨h3, by omega⟩]
    omega
theorem longK_le (d : Nat) (it : ItemD) : longK d it ≤ 65542 := by
  have h1 := @ahead_le it.text.length
  have h2 := @ahead_le (raws it.items).length
  unfold longK
  repeat' split
  all_goals omega
theorem c_item_long (it : ItemD) (h : it.ok) (d : Nat) (hd : d ≤ 16) : Contract Try.prog 59 [it.av, .int .i64 d] (.tup [.int .i64 (longK d it), .bool (okI d it)]) := by
  have ht := h.text
  have hn := h.num
  have hahead := ahead_le (n := it.text.length) (by omega)
  cases hl : it.list with
  | false =>
    refine contract_of (C := cf 91 [1, 2, 4, 5, 6, 7, 9, 10, 11, 12, 28, 37, 52, 60, 61, 62, 63, 64, 82] (fun _ => [])) (cf_ok _ _ _) (fn := Try.f59) Try.func59 (by kernel_rfl) rfl (by kernel_rfl) (by simp [cf]) (plain2 it.plain (.int _ _)) (by decide) (noCell (by kernel_rfl)) ?_
    have bad : ∀ {σ}, look σ.tmps 4 = some (.int .i64 0) → look σ.tmps 5 = some (.bool false) → longK d it = 0 → okI d it = false → BodyPost (cf 91 [1, 2, 4, 5, 6, 7, 9, 10, 11, 12, 28, 37, 52, 60, 61, 62, 63, 64, 82] (fun _ => [])) Try.f59.results.toList (.tup [.int .i64 (longK d it), .bool (okI d it)]) .ret σ := fun h1 h2 h3 h4 => by
      refine finTup ?_
      show resOf _ _ [.tmp 4, .tmp 5] = _
      rw [h3, h4]
      simp only [resOf, resAll, resOne, resCons, resTup, resTmp, h1, h2, AV.isImm, if_true]
      rfl
    simp only [go_sem, ↓reduceIte, Nat.reduceLT, Nat.reduceLeDiff, Nat.reduceAdd, Nat.reduceSub, Nat.reduceMul, Nat.reduceEqDiff, Nat.reduceBEq, Nat.reduceMod, Nat.reduceDiv, Int.reduceToNat, reduceCtorEq, Int.reduceLT, Int.reduceLE, Int.reduceGT, Int.reduceGE, Int.reduceAdd, Int.reduceSub, Int.reduceMul, Int.reduceNeg, Int.reduceEq, Int.reduceNe, Int.reduceBNe, Int.reduceBEq, Int.reduceDiv, ItemD.av_eq, ItemD.cells, hl, List.length_map]
    rcases Decidable.em (it.items = []) with hi | hi
    · rw [hi]
      simp only [go_sem, ↓reduceIte, Nat.reduceLT, Nat.reduceLeDiff, Nat.reduceAdd, Nat.reduceSub, Nat.reduceMul, Nat.reduceEqDiff, Nat.reduceBEq, Nat.reduceMod, Nat.reduceDiv, Int.reduceToNat, reduceCtorEq, Int.reduceLT, Int.reduceLE, Int.reduceGT, Int.reduceGE, Int.reduceAdd, Int.reduceSub, Int.reduceMul, Int.reduceNeg, Int.reduceEq, Int.reduceNe, Int.reduceBNe, Int.reduceBEq, Int.reduceDiv, Int.cast_ofNat_Int]
      rcases Decidable.em (it.text.length > 65536) with hx | hx
      · have e1 : decide ((it.text.length : Int) > 65536) = true := decide_eq_true (by omega)
        rw [e1]
        simp only [go_sem, ↓reduceIte, Nat.reduceLT, Nat.reduceLeDiff, Nat.reduceAdd, Nat.reduceSub, Nat.reduceMul, Nat.reduceEqDiff, Nat.reduceBEq, Nat.reduceMod, Nat.reduceDiv, Int.reduceToNat, reduceCtorEq, Int.reduceLT, Int.reduceLE, Int.reduceGT, Int.reduceGE, Int.reduceAdd, Int.reduceSub, Int.reduceMul, Int.reduceNeg, Int.reduceEq, Int.reduceNe, Int.reduceBNe, Int.reduceBEq, Int.reduceDiv]
        refine bad rfl rfl (by unfold longK; rw [if_pos hl, if_pos (.inr hx)]) ?_
        rw [okI_text d hl, hi, rawOf_text hl]
        rw [if_neg (fun ha => by have := alone_len ha; omega), List.length_append]
        rw [decide_eq_false (by omega)]; rfl
      · have e1 : decide ((it.text.length : Int) > 65536) = false := decide_eq_false (by omega)
        rw [e1]
        simp only [go_sem, ↓reduceIte, Nat.reduceLT, Nat.reduceLeDiff, Nat.reduceAdd, Nat.reduceSub, Nat.reduceMul, Nat.reduceEqDiff, Nat.reduceBEq, Nat.reduceMod, Nat.reduceDiv, Int.reduceToNat, reduceCtorEq, Int.reduceLT, Int.reduceLE, Int.reduceGT, Int.reduceGE, Int.reduceAdd, Int.reduceSub, Int.reduceMul, Int.reduceNeg, Int.reduceEq, Int.reduceNe, Int.reduceBNe, Int.reduceBEq, Int.reduceDiv, hl]
        refine ex_call (by exact c_item_alone it.text (by omega)) ?_
        simp only [go_sem, ↓reduceIte, Nat.reduceLT, Nat.reduceLeDiff, Nat.reduceAdd, Nat.reduceSub, Nat.reduceMul, Nat.reduceEqDiff, Nat.reduceBEq, Nat.reduceMod, Nat.reduceDiv, Int.reduceToNat, reduceCtorEq, Int.reduceLT, Int.reduceLE, Int.reduceGT, Int.reduceGE, Int.reduceAdd, Int.reduceSub, Int.reduceMul, Int.reduceNeg, Int.reduceEq, Int.reduceNe, Int.reduceBNe, Int.reduceBEq, Int.reduceDiv, hl]
        cases ha : aloneB it.text with
        | true =>
          have hk : longK d it = 1 := by unfold longK; rw [if_pos hl, if_neg (by simp [hi]; omega), if_pos ha]
          have ho : okI d it = true := by rw [okI_text d hl, hi, rawOf_text hl, if_pos ha, alone_len ha]; rfl
          rw [hk, ho]
          simp only [go_sem, ↓reduceIte, Nat.reduceLT, Nat.reduceLeDiff, Nat.reduceAdd, Nat.reduceSub, Nat.reduceMul, Nat.reduceEqDiff, Nat.reduceBEq, Nat.reduceMod, Nat.reduceDiv, Int.reduceToNat, reduceCtorEq, Int.reduceLT, Int.reduceLE, Int.reduceGT, Int.reduceGE, Int.reduceAdd, Int.reduceSub, Int.reduceMul, Int.reduceNeg, Int.reduceEq, Int.reduceNe, Int.reduceBNe, Int.reduceBEq, Int.reduceDiv]
          refine finTup ?_
          show resOf _ _ [.tmp 4, .tmp 5] = _
          simp only [go_sem, ↓reduceIte, Nat.reduceLT, Nat.reduceLeDiff, Nat.reduceAdd, Nat.reduceSub, Nat.reduceMul, Nat.reduceEqDiff, Nat.reduceBEq, Nat.reduceMod, Nat.reduceDiv, Int.reduceToNat, reduceCtorEq, Int.reduceLT, Int.reduceLE, Int.reduceGT, Int.reduceGE, Int.reduceAdd, Int.reduceSub, Int.reduceMul, Int.reduceNeg, Int.reduceEq, Int.reduceNe, Int.reduceBNe, Int.reduceBEq, Int.reduceDiv]
          rfl
        | false =>
          have hk : longK d it = it.text.length + aheadN it.text.length := by unfold longK; rw [if_pos hl, if_neg (by simp [hi]; omega), if_neg (by rw [ha]; simp)]
          have ho : okI d it = decide (((it.text.length + aheadN it.text.length : Nat) : Int) ≤ 65536) := by
            rw [okI_text d hl, hi, rawOf_text hl, if_neg (by rw [ha]; simp), List.length_append, headB_len]
            rw [show ([] : List ItemD).isEmpty = true from rfl, Bool.true_and]
            exact decide_congr (by omega)
          have w : IntKind.i64.wrap ((it.text.length : Int) + (aheadN it.text.length : Int)) = ((it.text.length + aheadN it.text.length : Nat) : Int) := by rw [wi64 (by omega) (by omega)]; omega
          rw [hk, ho]
          simp only [go_sem, ↓reduceIte, Nat.reduceLT, Nat.reduceLeDiff, Nat.reduceAdd, Nat.reduceSub, Nat.reduceMul, Nat.reduceEqDiff, Nat.reduceBEq, Nat.reduceMod, Nat.reduceDiv, Int.reduceToNat, reduceCtorEq, Int.reduceLT, Int.reduceLE, Int.reduceGT, Int.reduceGE, Int.reduceAdd, Int.reduceSub, Int.reduceMul, Int.reduceNeg, Int.reduceEq, Int.reduceNe, Int.reduceBNe, Int.reduceBEq, Int.reduceDiv, hl]
          refine ex_draw [] [] (.quiet 0 (.quiet 1 (.quiet 2 (.quiet 3 (.quiet 4 (.quiet 5 (.one 6 (.quiet 7 (.quiet 8 (.fin)))))))))) (by kernel_rfl) ?_
          simp only [go_sem, ↓reduceIte, Nat.reduceLT, Nat.reduceLeDiff, Nat.reduceAdd, Nat.reduceSub, Nat.reduceMul, Nat.reduceEqDiff, Nat.reduceBEq, Nat.reduceMod, Nat.reduceDiv, Int.reduceToNat, reduceCtorEq, Int.reduceLT, Int.reduceLE, Int.reduceGT, Int.reduceGE, Int.reduceAdd, Int.reduceSub, Int.reduceMul, Int.reduceNeg, Int.reduceEq, Int.reduceNe, Int.reduceBNe, Int.reduceBEq, Int.reduceDiv]
          refine ex_call (by exact c_item_ahead it.text.length (by omega)) ?_
          simp only [go_sem, ↓reduceIte, Nat.reduceLT, Nat.reduceLeDiff, Nat.reduceAdd, Nat.reduceSub, Nat.reduceMul, Nat.reduceEqDiff, Nat.reduceBEq, Nat.reduceMod, Nat.reduceDiv, Int.reduceToNat, reduceCtorEq, Int.reduceLT, Int.reduceLE, Int.reduceGT, Int.reduceGE, Int.reduceAdd, Int.reduceSub, Int.reduceMul, Int.reduceNeg, Int.reduceEq, Int.reduceNe, Int.reduceBNe, Int.reduceBEq, Int.reduceDiv, w]
          refine finTup ?_
          show resOf _ _ [.tmp 4, .tmp 5] = _
          simp only [go_sem, ↓reduceIte, Nat.reduceLT, Nat.reduceLeDiff, Nat.reduceAdd, Nat.reduceSub, Nat.reduceMul, Nat.reduceEqDiff, Nat.reduceBEq, Nat.reduceMod, Nat.reduceDiv, Int.reduceToNat, reduceCtorEq, Int.reduceLT, Int.reduceLE, Int.reduceGT, Int.reduceGE, Int.reduceAdd, Int.reduceSub, Int.reduceMul, Int.reduceNeg, Int.reduceEq, Int.reduceNe, Int.reduceBNe, Int.reduceBEq, Int.reduceDiv]
    · have e1 : decide ((it.items.length : Int) > 0) = true := decide_eq_true (by
        have : it.items.length ≠ 0 := fun e => hi (List.eq_nil_of_length_eq_zero e)
        omega)
      rw [e1]
      simp only [go_sem, ↓reduceIte, Nat.reduceLT, Nat.reduceLeDiff, Nat.reduceAdd, Nat.reduceSub, Nat.reduceMul, Nat.reduceEqDiff, Nat.reduceBEq, Nat.reduceMod, Nat.reduceDiv, Int.reduceToNat, reduceCtorEq, Int.reduceLT, Int.reduceLE, Int.reduceGT, Int.reduceGE, Int.reduceAdd, Int.reduceSub, Int.reduceMul, Int.reduceNeg, Int.reduceEq, Int.reduceNe, Int.reduceBNe, Int.reduceBEq, Int.reduceDiv]
      refine bad rfl rfl (by unfold longK; rw [if_pos hl, if_pos (.inl hi)]) ?_
      rw [okI_text d hl]
      cases hq : it.items with
      | nil => exact absurd hq hi
      | cons a l => rfl
  | true =>
    have ih : ∀ x, x ∈ it.items → d + 1 ≤ 16 → Contract Try.prog 59 [x.av, .int .i64 (d + 1 : Nat)] (.tup [.int .i64 (longK (d + 1) x), .bool (okI (d + 1) x)]) := fun x hx hd1 => c_item_long x (h.all x hx) (d + 1) hd1
    refine contract_of (C := cf 91 [1, 2, 4, 5, 6, 7, 9, 10, 11, 12, 28, 37, 52, 60, 61, 62, 63, 64, 82] (fun _ => [])) (cf_ok _ _ _) (fn := Try.f59) Try.func59 (by kernel_rfl) rfl (by kernel_rfl) (by simp [cf]) (plain2 it.plain (.int _ _)) (by decide) (noCell (by kernel_rfl)) ?_
    have hkl : longK d it = if it.text ≠ [] ∨ 16 ≤ d then 0 else if okIs (d + 1) it.items = true ∧ (raws it.items).length ≤ 65536 then (raws it.items).length + aheadN (raws it.items).length else 0 := by
      unfold longK; rw [if_neg (by rw [hl]; simp)]
    have bad : ∀ {σ}, look σ.tmps 4 = some (.int .i64 0) → look σ.tmps 5 = some (.bool false) → longK d it = 0 → okI d it = false → BodyPost (cf 91 [1, 2, 4, 5, 6, 7, 9, 10, 11, 12, 28, 37, 52, 60, 61, 62, 63, 64, 82] (fun _ => [])) Try.f59.results.toList (.tup [.int .i64 (longK d it), .bool (okI d it)]) .ret σ := fun h1 h2 h3 h4 => by
      refine finTup ?_
      show resOf _ _ [.tmp 4, .tmp 5] = _
      rw [h3, h4]
      simp only [resOf, resAll, resOne, resCons, resTup, resTmp, h1, h2, AV.isImm, if_true]
      rfl
    simp only [go_sem, ↓reduceIte, Nat.reduceLT, Nat.reduceLeDiff, Nat.reduceAdd, Nat.reduceSub, Nat.reduceMul, Nat.reduceEqDiff, Nat.reduceBEq, Nat.reduceMod, Nat.reduceDiv, Int.reduceToNat, reduceCtorEq, Int.reduceLT, Int.reduceLE, Int.reduceGT, Int.reduceGE, Int.reduceAdd, Int.reduceSub, Int.reduceMul, Int.reduceNeg, Int.reduceEq, Int.reduceNe, Int.reduceBNe, Int.reduceBEq, Int.reduceDiv, ItemD.av_eq, ItemD.cells, hl, List.length_map]
    rcases Decidable.em (it.text = []) with htx | htx
    · rw [htx]
      rcases Decidable.em (16 ≤ d) with hd1 | hd1
      · have e1 : decide ((d : Int) ≥ 16) = true := decide_eq_true (by omega)
        simp only [go_sem, ↓reduceIte, Nat.reduceLT, Nat.reduceLeDiff, Nat.reduceAdd, Nat.reduceSub, Nat.reduceMul, Nat.reduceEqDiff, Nat.reduceBEq, Nat.reduceMod, Nat.reduceDiv, Int.reduceToNat, reduceCtorEq, Int.reduceLT, Int.reduceLE, Int.reduceGT, Int.reduceGE, Int.reduceAdd, Int.reduceSub, Int.reduceMul, Int.reduceNeg, Int.reduceEq, Int.reduceNe, Int.reduceBNe, Int.reduceBEq, Int.reduceDiv, e1, hl]
        refine bad rfl rfl (by rw [hkl, if_pos (.inr hd1)]) ?_
        rw [okI_list d hl, decide_eq_false (show ¬ d < 16 by omega)]; simp
      · have e1 : decide ((d : Int) ≥ 16) = false := decide_eq_false (by omega)
        have hk : longK d it = if okIs (d + 1) it.items = true ∧ (raws it.items).length ≤ 65536 then (raws it.items).length + aheadN (raws it.items).length else 0 := by
          rw [hkl, if_neg (by simp [htx]; omega)]
        have ho : okI d it = (okIs (d + 1) it.items && decide ((rawOf it).length ≤ 65536)) := by
          rw [okI_list d hl, htx, decide_eq_true (show d < 16 by omega)]; simp
        have hrl : (rawOf it).length = (raws it.items).length + aheadN (raws it.items).length := by rw [rawOf_list hl, List.length_append, headB_len]; omega
        have w1 : IntKind.i64.wrap ((d : Int) + 1) = ((d + 1 : Nat) : Int) := wi64_nat d (by omega)
        simp only [go_sem, ↓reduceIte, Nat.reduceLT, Nat.reduceLeDiff, Nat.reduceAdd, Nat.reduceSub, Nat.reduceMul, Nat.reduceEqDiff, Nat.reduceBEq, Nat.reduceMod, Nat.reduceDiv, Int.reduceToNat, reduceCtorEq, Int.reduceLT, Int.reduceLE, Int.reduceGT, Int.reduceGE, Int.reduceAdd, Int.reduceSub, Int.reduceMul, Int.reduceNeg, Int.reduceEq, Int.reduceNe, Int.reduceBNe, Int.reduceBEq, Int.reduceDiv, e1, hl, List.length_map]
        refine ex_iter [1, 2, 7, 60, 61, 62, 63] (fun i : Nat => ⟨[(1, .int .i64 d), (2, .var 2 0), (7, .int .i64 (raws (it.items.take i)).length), (60, .var 2 2), (61, .sl false 3 (it.items.map ItemD.av)), (62, .int .i64 it.items.length), (63, .int .i64 i)], [(2, [.bool true, .str [], .sl false 3 (it.items.map ItemD.av)])]⟩)
          (fun i => i ≤ it.items.length ∧ okIs (d + 1) (it.items.take i) = true ∧ (raws (it.items.take i)).length ≤ 65536) (fun i => it.items.length - i) 0 ?_ ?_ ?_
        · simp only [ASt.keep, consIf, keepL, keepV, AV.isBot, List.contains_cons, List.contains_nil, Nat.reduceBEq, Bool.or_false, Bool.false_or, Bool.or_true, Bool.true_or, beq_self_eq_true, Bool.false_eq_true, ↓reduceIte, if_false, if_true]
          rfl
        · exact ⟨Nat.zero_le _, by rw [List.take_zero, okIs_nil], by rw [List.take_zero, raws_nil]; simp⟩
        · rintro r i ⟨hi, hok, hlen⟩ next
          simp only [go_sem, ↓reduceIte, Nat.reduceLT, Nat.reduceLeDiff, Nat.reduceAdd, Nat.reduceSub, Nat.reduceMul, Nat.reduceEqDiff, Nat.reduceBEq, Nat.reduceMod, Nat.reduceDiv, Int.reduceToNat, reduceCtorEq, Int.reduceLT, Int.reduceLE, Int.reduceGT, Int.reduceGE, Int.reduceAdd, Int.reduceSub, Int.reduceMul, Int.reduceNeg, Int.reduceEq, Int.reduceNe, Int.reduceBNe, Int.reduceBEq, Int.reduceDiv]
          refine ex_br (fun hc => ?_) (fun hc => ?_)
          · have hlt : i < it.items.length := by simpa using hc
            obtain ⟨x, ex⟩ : ∃ x, it.items[i]? = some x := ⟨_, List.getElem?_eq_getElem hlt⟩
            have hm := List.mem_of_getElem? ex
            have hx := ih x hm (by omega)
            rw [ItemD.av_eq] at hx
            have hkx := longK_le (d + 1) x
            have hsnoc : it.items.take (i + 1) = it.items.take i ++ [x] := by rw [List.take_add_one, ex]; rfl
            have hraw : raws (it.items.take (i + 1)) = raws (it.items.take i) ++ rawOf x := by rw [hsnoc, raws_append, raws_cons, raws_nil, List.append_nil]
            have hok2 : okI (d + 1) x = true → okIs (d + 1) (it.items.take (i + 1)) = true := fun hox => by
              rw [hsnoc]
              refine okIs_all fun y hy => ?_
              rcases List.mem_append.1 hy with hy | hy
              · exact okIs_mem hok y hy
              · rw [List.mem_singleton.1 hy]; exact hox
            have w2 : IntKind.i64.wrap (((raws (it.items.take i)).length : Int) + (longK (d + 1) x : Int)) = (((raws (it.items.take i)).length + longK (d + 1) x : Nat) : Int) := by rw [wi64 (by omega) (by omega)]; omega
            cases hox : okI (d + 1) x with
            | true =>
              have hkk := longK_ok hox
              rw [hox, hkk] at hx
              rw [hkk] at w2
              rcases Decidable.em ((raws (it.items.take i)).length + (rawOf x).length > 65536) with hg | hg
              · have e2 : decide ((((raws (it.items.take i)).length + (rawOf x).length : Nat) : Int) > 65536) = true := decide_eq_true (by omega)
                simp only [go_sem, ↓reduceIte, Nat.reduceLT, Nat.reduceLeDiff, Nat.reduceAdd, Nat.reduceSub, Nat.reduceMul, Nat.reduceEqDiff, Nat.reduceBEq, Nat.reduceMod, Nat.reduceDiv, Int.reduceToNat, reduceCtorEq, Int.reduceLT, Int.reduceLE, Int.reduceGT, Int.reduceGE, Int.reduceAdd, Int.reduceSub, Int.reduceMul, Int.reduceNeg, Int.reduceEq, Int.reduceNe, Int.reduceBNe, Int.reduceBEq, Int.reduceDiv, List.length_map, List.getElem?_map, ex, Int.toNat_natCast, ItemD.av_eq, ItemD.cells]
                repeat with_reducible refine And.intro (by first | omega | (simp only [List.length_cons, List.length_append, List.length_nil, List.length_map, List.length_take, List.length_drop, List.length_set]; omega)) ?_
                try simp only [go_sem, ↓reduceIte, Nat.reduceLT, Nat.reduceLeDiff, Nat.reduceAdd, Nat.reduceSub, Nat.reduceMul, Nat.reduceEqDiff, Nat.reduceBEq, Nat.reduceMod, Nat.reduceDiv, Int.reduceToNat, reduceCtorEq, Int.reduceLT, Int.reduceLE, Int.reduceGT, Int.reduceGE, Int.reduceAdd, Int.reduceSub, Int.reduceMul, Int.reduceNeg, Int.reduceEq, Int.reduceNe, Int.reduceBNe, Int.reduceBEq, Int.reduceDiv, ItemD.cells, w1]
                refine ex_call (by exact hx) ?_
                simp only [go_sem, ↓reduceIte, Nat.reduceLT, Nat.reduceLeDiff, Nat.reduceAdd, Nat.reduceSub, Nat.reduceMul, Nat.reduceEqDiff, Nat.reduceBEq, Nat.reduceMod, Nat.reduceDiv, Int.reduceToNat, reduceCtorEq, Int.reduceLT, Int.reduceLE, Int.reduceGT, Int.reduceGE, Int.reduceAdd, Int.reduceSub, Int.reduceMul, Int.reduceNeg, Int.reduceEq, Int.reduceNe, Int.reduceBNe, Int.reduceBEq, Int.reduceDiv, w2, e2]
                have hbig : ¬ (raws it.items).length ≤ 65536 := by
                  have e3 : raws it.items = raws (it.items.take (i + 1)) ++ raws (it.items.drop (i + 1)) := by rw [← raws_append, List.take_append_drop]
                  rw [e3, List.length_append, hraw, List.length_append]
                  omega
                refine bad rfl rfl (by rw [hk, if_neg (fun h => hbig h.2)]) ?_
                rw [ho, decide_eq_false (by omega)]; simp
              · have e2 : decide ((((raws (it.items.take i)).length + (rawOf x).length : Nat) : Int) > 65536) = false := decide_eq_false (by omega)
                simp only [go_sem, ↓reduceIte, Nat.reduceLT, Nat.reduceLeDiff, Nat.reduceAdd, Nat.reduceSub, Nat.reduceMul, Nat.reduceEqDiff, Nat.reduceBEq, Nat.reduceMod, Nat.reduceDiv, Int.reduceToNat, reduceCtorEq, Int.reduceLT, Int.reduceLE, Int.reduceGT, Int.reduceGE, Int.reduceAdd, Int.reduceSub, Int.reduceMul, Int.reduceNeg, Int.reduceEq, Int.reduceNe, Int.reduceBNe, Int.reduceBEq, Int.reduceDiv, List.length_map, List.getElem?_map, ex, Int.toNat_natCast, ItemD.av_eq, ItemD.cells]
                repeat with_reducible refine And.intro (by first | omega | (simp only [List.length_cons, List.length_append, List.length_nil, List.length_map, List.length_take, List.length_drop, List.length_set]; omega)) ?_
                try simp only [go_sem, ↓reduceIte, Nat.reduceLT, Nat.reduceLeDiff, Nat.reduceAdd, Nat.reduceSub, Nat.reduceMul, Nat.reduceEqDiff, Nat.reduceBEq, Nat.reduceMod, Nat.reduceDiv, Int.reduceToNat, reduceCtorEq, Int.reduceLT, Int.reduceLE, Int.reduceGT, Int.reduceGE, Int.reduceAdd, Int.reduceSub, Int.reduceMul, Int.reduceNeg, Int.reduceEq, Int.reduceNe, Int.reduceBNe, Int.reduceBEq, Int.reduceDiv, ItemD.cells, w1]
                refine ex_call (by exact hx) ?_
                simp only [go_sem, ↓reduceIte, Nat.reduceLT, Nat.reduceLeDiff, Nat.reduceAdd, Nat.reduceSub, Nat.reduceMul, Nat.reduceEqDiff, Nat.reduceBEq, Nat.reduceMod, Nat.reduceDiv, Int.reduceToNat, reduceCtorEq, Int.reduceLT, Int.reduceLE, Int.reduceGT, Int.reduceGE, Int.reduceAdd, Int.reduceSub, Int.reduceMul, Int.reduceNeg, Int.reduceEq, Int.reduceNe, Int.reduceBNe, Int.reduceBEq, Int.reduceDiv, w2, e2]
                refine next (i + 1) _ ⟨by omega, hok2 hox, by rw [hraw, List.length_append]; omega⟩ (by omega) ?_
                rw [hraw, List.length_append, ← wi64_nat i (by omega)]
                simp only [ASt.keep, consIf, keepL, keepV, AV.isBot, List.contains_cons, List.contains_nil, Nat.reduceBEq, Bool.or_false, Bool.false_or, Bool.or_true, Bool.true_or, beq_self_eq_true, Bool.false_eq_true, ↓reduceIte, if_false, if_true]
            | false =>
              rw [hox] at hx
              simp only [go_sem, ↓reduceIte, Nat.reduceLT, Nat.reduceLeDiff, Nat.reduceAdd, Nat.reduceSub, Nat.reduceMul, Nat.reduceEqDiff, Nat.reduceBEq, Nat.reduceMod, Nat.reduceDiv, Int.reduceToNat, reduceCtorEq, Int.reduceLT, Int.reduceLE, Int.reduceGT, Int.reduceGE, Int.reduceAdd, Int.reduceSub, Int.reduceMul, Int.reduceNeg, Int.reduceEq, Int.reduceNe, Int.reduceBNe, Int.reduceBEq, Int.reduceDiv, List.length_map, List.getElem?_map, ex, Int.toNat_natCast, ItemD.av_eq, ItemD.cells]
              repeat with_reducible refine And.intro (by first | omega | (simp only [List.length_cons, List.length_append, List.length_nil, List.length_map, List.length_take, List.length_drop, List.length_set]; omega)) ?_
              try simp only [go_sem, ↓reduceIte, Nat.reduceLT, Nat.reduceLeDiff, Nat.reduceAdd, Nat.reduceSub, Nat.reduceMul, Nat.reduceEqDiff, Nat.reduceBEq, Nat.reduceMod, Nat.reduceDiv, Int.reduceToNat, reduceCtorEq, Int.reduceLT, Int.reduceLE, Int.reduceGT, Int.reduceGE, Int.reduceAdd, Int.reduceSub, Int.reduceMul, Int.reduceNeg, Int.reduceEq, Int.reduceNe, Int.reduceBNe, Int.reduceBEq, Int.reduceDiv, ItemD.cells, w1]
              refine ex_call (by exact hx) ?_
              simp only [go_sem, ↓reduceIte, Nat.reduceLT, Nat.reduceLeDiff, Nat.reduceAdd, Nat.reduceSub, Nat.reduceMul, Nat.reduceEqDiff, Nat.reduceBEq, Nat.reduceMod, Nat.reduceDiv, Int.reduceToNat, reduceCtorEq, Int.reduceLT, Int.reduceLE, Int.reduceGT, Int.reduceGE, Int.reduceAdd, Int.reduceSub, Int.reduceMul, Int.reduceNeg, Int.reduceEq, Int.reduceNe, Int.reduceBNe, Int.reduceBEq, Int.reduceDiv, w2]
              have hbad : okIs (d + 1) it.items = false := by
                cases hq : okIs (d + 1) it.items with
                | false => rfl
                | true => rw [okIs_mem hq x hm] at hox; cases hox
              refine bad rfl rfl (by rw [hk, if_neg (fun h => by rw [hbad] at h; cases h.1)]) ?_
              rw [ho, hbad]; rfl
          · have hge : i = it.items.length := by simp at hc; omega
            subst hge
            rw [List.take_length] at hok hlen ⊢
            have hah := ahead_le (n := (raws it.items).length) (by omega)
            have w3 : IntKind.i64.wrap (((raws it.items).length : Int) + (aheadN (raws it.items).length : Int)) = (((raws it.items).length + aheadN (raws it.items).length : Nat) : Int) := by rw [wi64 (by omega) (by omega)]; omega
            rw [hk, if_pos ⟨hok, hlen⟩, ho, hok, Bool.true_and, hrl]
            simp only [go_sem, ↓reduceIte, Nat.reduceLT, Nat.reduceLeDiff, Nat.reduceAdd, Nat.reduceSub, Nat.reduceMul, Nat.reduceEqDiff, Nat.reduceBEq, Nat.reduceMod, Nat.reduceDiv, Int.reduceToNat, reduceCtorEq, Int.reduceLT, Int.reduceLE, Int.reduceGT, Int.reduceGE, Int.reduceAdd, Int.reduceSub, Int.reduceMul, Int.reduceNeg, Int.reduceEq, Int.reduceNe, Int.reduceBNe, Int.reduceBEq, Int.reduceDiv]
            refine ex_call (by exact c_item_ahead (raws it.items).length (by omega)) ?_
            have e3 : decide ((((raws it.items).length + aheadN (raws it.items).length : Nat) : Int) ≤ 65536) = decide ((raws it.items).length + aheadN (raws it.items).length ≤ 65536) := decide_congr (by omega)
            simp only [go_sem, ↓reduceIte, Nat.reduceLT, Nat.reduceLeDiff, Nat.reduceAdd, Nat.reduceSub, Nat.reduceMul, Nat.reduceEqDiff, Nat.reduceBEq, Nat.reduceMod, Nat.reduceDiv, Int.reduceToNat, reduceCtorEq, Int.reduceLT, Int.reduceLE, Int.reduceGT, Int.reduceGE, Int.reduceAdd, Int.reduceSub, Int.reduceMul, Int.reduceNeg, Int.reduceEq, Int.reduceNe, Int.reduceBNe, Int.reduceBEq, Int.reduceDiv, w3, e3]
            refine finTup ?_
            show resOf _ _ [.tmp 4, .tmp 5] = _
            simp only [go_sem, ↓reduceIte, Nat.reduceLT, Nat.reduceLeDiff, Nat.reduceAdd, Nat.reduceSub, Nat.reduceMul, Nat.reduceEqDiff, Nat.reduceBEq, Nat.reduceMod, Nat.reduceDiv, Int.reduceToNat, reduceCtorEq, Int.reduceLT, Int.reduceLE, Int.reduceGT, Int.reduceGE, Int.reduceAdd, Int.reduceSub, Int.reduceMul, Int.reduceNeg, Int.reduceEq, Int.reduceNe, Int.reduceBNe, Int.reduceBEq, Int.reduceDiv]
    · have e1 : (it.text == ([] : List UInt8)) = false := by simpa using htx
      rw [e1]
      simp only [go_sem, ↓reduceIte, Nat.reduceLT, Nat.reduceLeDiff, Nat.reduceAdd, Nat.reduceSub, Nat.reduceMul, Nat.reduceEqDiff, Nat.reduceBEq, Nat.reduceMod, Nat.reduceDiv, Int.reduceToNat, reduceCtorEq, Int.reduceLT, Int.reduceLE, Int.reduceGT, Int.reduceGE, Int.reduceAdd, Int.reduceSub, Int.reduceMul, Int.reduceNeg, Int.reduceEq, Int.reduceNe, Int.reduceBNe, Int.reduceBEq, Int.reduceDiv, hl]
      refine bad rfl rfl (by rw [hkl, if_pos (.inl htx)]) ?_
      rw [okI_list d hl]
      cases hq : it.text with
      | nil => exact absurd hq htx
      | cons a l => rfl
termination_by SizeOf.sizeOf it
decreasing_by exact item_lt hx
end Go.Proofs.Ytjfnmlheehbojaa.VA
