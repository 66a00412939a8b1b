/- Items as data; copies of items. -/
import Derived.Test.YtjfnmlheehbojaaCBytes
namespace Go.Proofs.Ytjfnmlheehbojaa.VA
set_option maxRecDepth 10000
set_option linter.unusedSimpArgs false
set_option linter.unusedVariables false
set_option maxHeartbeats 4000000

inductive ItemD where
  | mk (list : Bool) (text : List UInt8) (items : List ItemD)
def ItemD.list : ItemD → Bool
  | .mk l _ _ => l
def ItemD.text : ItemD → List UInt8
  | .mk _ t _ => t
def ItemD.items : ItemD → List ItemD
  | .mk _ _ xs => xs
mutual
def ItemD.av : ItemD → AV
  | .mk l t xs => .agg [.bool l, .str t, .sl false 3 (ItemD.avs xs)]
def ItemD.avs : List ItemD → List AV
  | [] => []
  | x :: xs => ItemD.av x :: ItemD.avs xs
end
theorem avs_map : ∀ xs : List ItemD, ItemD.avs xs = xs.map ItemD.av
  | [] => by rw [ItemD.avs]; rfl
  | x :: xs => by rw [ItemD.avs, avs_map xs]; rfl
def ItemD.cells (it : ItemD) : List AV := [.bool it.list, .str it.text, .sl false 3 (it.items.map ItemD.av)]
theorem ItemD.av_eq (it : ItemD) : it.av = .agg it.cells := by
  cases it with
  | mk l t xs => rw [ItemD.av, avs_map]; rfl
/-- How much an item holds. -/
def ItemD.wt : ItemD → Nat
  | .mk _ t xs => 1 + t.length + wts xs
where wts : List ItemD → Nat
  | [] => 0
  | x :: xs => x.wt + wts xs
abbrev wts := ItemD.wt.wts
theorem wt_eq (it : ItemD) : it.wt = 1 + it.text.length + wts it.items := by cases it; rw [ItemD.wt]; rfl
theorem wts_nil : wts [] = 0 := by rw [wts, ItemD.wt.wts]
theorem wts_cons (x : ItemD) (xs : List ItemD) : wts (x :: xs) = x.wt + wts xs := by rw [wts, ItemD.wt.wts]
theorem wt_pos (it : ItemD) : 1 ≤ it.wt := by rw [wt_eq]; omega
theorem wts_len : ∀ xs : List ItemD, xs.length ≤ wts xs
  | [] => Nat.zero_le _
  | x :: xs => by
    have := wts_len xs
    have := wt_pos x
    rw [wts_cons, List.length_cons]; omega
theorem wts_mem : ∀ {xs : List ItemD} {x : ItemD}, x ∈ xs → x.wt ≤ wts xs
  | y :: ys, x, h => by
    rw [wts_cons]
    rcases List.mem_cons.1 h with rfl | h
    · omega
    · have := wts_mem h; omega
theorem wts_append (xs ys : List ItemD) : wts (xs ++ ys) = wts xs + wts ys := by
  induction xs with
  | nil => rw [List.nil_append, wts_nil]; omega
  | cons x xs ih => rw [List.cons_append, wts_cons, wts_cons, ih]; omega
/-- Items of a size that may be. -/
def ItemD.ok (it : ItemD) : Prop := it.wt ≤ 16777216
theorem ItemD.ok.text {it : ItemD} (h : it.ok) : it.text.length ≤ 16777216 := by unfold ItemD.ok at h; rw [wt_eq] at h; omega
theorem ItemD.ok.num {it : ItemD} (h : it.ok) : it.items.length ≤ 16777216 := by
  unfold ItemD.ok at h; rw [wt_eq] at h
  have := wts_len it.items
  omega
theorem ItemD.ok.len {it : ItemD} (h : it.ok) : it.items.length * 48 ≤ reachBytes := by
  have := h.num
  unfold reachBytes; omega
theorem ItemD.ok.all {it : ItemD} (h : it.ok) : ∀ x, x ∈ it.items → x.ok := fun x hx => by
  unfold ItemD.ok at h ⊢
  rw [wt_eq] at h
  have := wts_mem hx
  omega
theorem item_lt {it x : ItemD} (h : x ∈ it.items) : SizeOf.sizeOf x < SizeOf.sizeOf it := by
  cases it with
  | mk l t xs =>
    have := List.sizeOf_lt_of_mem (show x ∈ xs from h)
    simp only [ItemD.mk.sizeOf_spec]
    omega
theorem ItemD.plain (it : ItemD) : Plain it.av := by
  rw [it.av_eq]
  refine .agg _ fun c hc => ?_
  simp only [ItemD.cells, List.mem_cons, List.not_mem_nil, or_false] at hc
  rcases hc with rfl | rfl | rfl
  · exact .bool _
  · exact .str _
  · refine .sl 3 _ fun d hd => ?_
    obtain ⟨x, hx, rfl⟩ := List.mem_map.1 hd
    exact x.plain
termination_by SizeOf.sizeOf it
decreasing_by exact item_lt hx
/-- A row within what is built: nil at first. -/
def repI (sz : Nat) : Nat → List AV → AV
  | 0, _ => .ext nilP
  | _ + 1, es => .own false sz es
theorem cellsI_len (it : ItemD) : it.cells.length = 3 := rfl
theorem c_copied (it : ItemD) (h : it.ok) : Contract Try.prog 68 [it.av] it.av := by
  have ih : ∀ x, x ∈ it.items → Contract Try.prog 68 [x.av] x.av := fun x hx => c_copied x (h.all x hx)
  have hl := h.len
  unfold reachBytes at hl
  refine contract_of (C := cf 27 [1, 2, 3, 5, 11, 12, 13, 14, 15] (fun _ => [])) (cf_ok _ _ _) (fn := Try.f68) Try.func68 (by kernel_rfl) rfl (by kernel_rfl) (by simp [cf]) (plain1 it.plain) (by decide) (cellsOk (by kernel_rfl)) ?_
  simp only [go_sem, ↓reduceIte, Nat.reduceLT, Nat.reduceLeDiff, Nat.reduceAdd, Nat.reduceSub, Nat.reduceMul, Nat.reduceEqDiff, Nat.reduceBEq, Nat.reduceMod, Nat.reduceDiv, Int.reduceToNat, reduceCtorEq, Int.reduceLT, Int.reduceLE, Int.reduceGT, Int.reduceGE, Int.reduceAdd, Int.reduceSub, Int.reduceMul, Int.reduceNeg, Int.reduceEq, Int.reduceNe, Int.reduceBNe, Int.reduceBEq, Int.reduceDiv, ItemD.av_eq, ItemD.cells]
  refine ex_iter [1, 2, 3, 11, 12, 13, 14] (fun i : Nat => ⟨[(1, .var 1 0), (2, .var 2 0), (3, .var 3 0), (11, .var 1 2), (12, .sl false 3 (it.items.map ItemD.av)), (13, .int .i64 it.items.length), (14, .int .i64 i)], [(1, it.cells), (2, [.bool false, .str [], .own false 3 []]), (3, [.bool it.list, .str it.text, repI 3 i ((it.items.take i).map ItemD.av)])]⟩) (fun i => i ≤ it.items.length) (fun i => it.items.length - i) 0 ?_ ?_ ?_
  · simp only [ASt.keep, consIf, keepL, keepV, AV.isBot, List.contains_cons, List.contains_nil, Nat.reduceBEq, Bool.or_false, Bool.false_or, Bool.or_true, Bool.true_or, beq_self_eq_true, Bool.false_eq_true, ↓reduceIte, if_false, if_true]
    simp only [List.length_map]
    rfl
  · exact Nat.zero_le _
  · intro n i hi next
    simp only [go_sem, ↓reduceIte, Nat.reduceLT, Nat.reduceLeDiff, Nat.reduceAdd, Nat.reduceSub, Nat.reduceMul, Nat.reduceEqDiff, Nat.reduceBEq, Nat.reduceMod, Nat.reduceDiv, Int.reduceToNat, reduceCtorEq, Int.reduceLT, Int.reduceLE, Int.reduceGT, Int.reduceGE, Int.reduceAdd, Int.reduceSub, Int.reduceMul, Int.reduceNeg, Int.reduceEq, Int.reduceNe, Int.reduceBNe, Int.reduceBEq, Int.reduceDiv, List.length_map]
    refine ex_br (fun h => ?_) (fun h => ?_)
    · have hlt : i < it.items.length := by simpa using h
      obtain ⟨x, ex⟩ : ∃ x, it.items[i]? = some x := ⟨_, List.getElem?_eq_getElem hlt⟩
      have hx := ih x (List.mem_of_getElem? ex)
      have hs : (it.items.take i).map ItemD.av ++ [.agg x.cells] = (it.items.take (i + 1)).map ItemD.av := by rw [← ItemD.av_eq]; exact take_snoc ItemD.av ex
      rw [ItemD.av_eq] at hx
      simp only [go_sem, ↓reduceIte, Nat.reduceLT, Nat.reduceLeDiff, Nat.reduceAdd, Nat.reduceSub, Nat.reduceMul, Nat.reduceEqDiff, Nat.reduceBEq, Nat.reduceMod, Nat.reduceDiv, Int.reduceToNat, reduceCtorEq, Int.reduceLT, Int.reduceLE, Int.reduceGT, Int.reduceGE, Int.reduceAdd, Int.reduceSub, Int.reduceMul, Int.reduceNeg, Int.reduceEq, Int.reduceNe, Int.reduceBNe, Int.reduceBEq, Int.reduceDiv, List.length_map, List.getElem?_map, ex, Int.toNat_natCast, ItemD.av_eq, ItemD.cells]
      repeat with_reducible refine And.intro (by first | omega | (simp only [List.length_cons, List.length_append, List.length_nil, List.length_map, List.length_take, List.length_drop, List.length_set]; omega)) ?_
      try simp only [go_sem, ↓reduceIte, Nat.reduceLT, Nat.reduceLeDiff, Nat.reduceAdd, Nat.reduceSub, Nat.reduceMul, Nat.reduceEqDiff, Nat.reduceBEq, Nat.reduceMod, Nat.reduceDiv, Int.reduceToNat, reduceCtorEq, Int.reduceLT, Int.reduceLE, Int.reduceGT, Int.reduceGE, Int.reduceAdd, Int.reduceSub, Int.reduceMul, Int.reduceNeg, Int.reduceEq, Int.reduceNe, Int.reduceBNe, Int.reduceBEq, Int.reduceDiv, ItemD.cells]
      refine ex_draw [7] [] (.quiet 0 (.quiet 1 (.quiet 2 (.one 3 (.one 4 (.one 5 (.quiet 6 (.unlock (.one 7 (.fin)))))))))) (by kernel_rfl) ?_
      cases i with
      | zero =>
        simp only [go_sem, ↓reduceIte, Nat.reduceLT, Nat.reduceLeDiff, Nat.reduceAdd, Nat.reduceSub, Nat.reduceMul, Nat.reduceEqDiff, Nat.reduceBEq, Nat.reduceMod, Nat.reduceDiv, Int.reduceToNat, reduceCtorEq, Int.reduceLT, Int.reduceLE, Int.reduceGT, Int.reduceGE, Int.reduceAdd, Int.reduceSub, Int.reduceMul, Int.reduceNeg, Int.reduceEq, Int.reduceNe, Int.reduceBNe, Int.reduceBEq, Int.reduceDiv, repI]
        refine ex_call (by exact hx) ?_
        simp only [go_sem, ↓reduceIte, Nat.reduceLT, Nat.reduceLeDiff, Nat.reduceAdd, Nat.reduceSub, Nat.reduceMul, Nat.reduceEqDiff, Nat.reduceBEq, Nat.reduceMod, Nat.reduceDiv, Int.reduceToNat, reduceCtorEq, Int.reduceLT, Int.reduceLE, Int.reduceGT, Int.reduceGE, Int.reduceAdd, Int.reduceSub, Int.reduceMul, Int.reduceNeg, Int.reduceEq, Int.reduceNe, Int.reduceBNe, Int.reduceBEq, Int.reduceDiv, cellsI_len, repI]
        repeat with_reducible refine And.intro (by first | omega | (simp only [List.length_cons, List.length_append, List.length_nil, List.length_map, List.length_take, List.length_drop, List.length_set]; omega)) ?_
        refine next (0 + 1) _ (by omega) (by omega) ?_
        rw [← wi64_nat 0 (by omega), ← hs]
        simp only [ASt.keep, consIf, keepL, keepV, AV.isBot, List.contains_cons, List.contains_nil, Nat.reduceBEq, Bool.or_false, Bool.false_or, Bool.or_true, Bool.true_or, beq_self_eq_true, Bool.false_eq_true, ↓reduceIte, if_false, if_true]
        rfl
      | succ i =>
        simp only [go_sem, ↓reduceIte, Nat.reduceLT, Nat.reduceLeDiff, Nat.reduceAdd, Nat.reduceSub, Nat.reduceMul, Nat.reduceEqDiff, Nat.reduceBEq, Nat.reduceMod, Nat.reduceDiv, Int.reduceToNat, reduceCtorEq, Int.reduceLT, Int.reduceLE, Int.reduceGT, Int.reduceGE, Int.reduceAdd, Int.reduceSub, Int.reduceMul, Int.reduceNeg, Int.reduceEq, Int.reduceNe, Int.reduceBNe, Int.reduceBEq, Int.reduceDiv, repI]
        refine ex_call (by exact hx) ?_
        simp only [go_sem, ↓reduceIte, Nat.reduceLT, Nat.reduceLeDiff, Nat.reduceAdd, Nat.reduceSub, Nat.reduceMul, Nat.reduceEqDiff, Nat.reduceBEq, Nat.reduceMod, Nat.reduceDiv, Int.reduceToNat, reduceCtorEq, Int.reduceLT, Int.reduceLE, Int.reduceGT, Int.reduceGE, Int.reduceAdd, Int.reduceSub, Int.reduceMul, Int.reduceNeg, Int.reduceEq, Int.reduceNe, Int.reduceBNe, Int.reduceBEq, Int.reduceDiv, cellsI_len, repI, List.length_map]
        repeat with_reducible refine And.intro (by first | omega | (simp only [List.length_cons, List.length_append, List.length_nil, List.length_map, List.length_take, List.length_drop, List.length_set]; omega)) ?_
        refine next (i + 1 + 1) _ (by omega) (by omega) ?_
        rw [← wi64_nat (i + 1) (by omega), ← hs]
        simp only [ASt.keep, consIf, keepL, keepV, AV.isBot, List.contains_cons, List.contains_nil, Nat.reduceBEq, Bool.or_false, Bool.false_or, Bool.or_true, Bool.true_or, beq_self_eq_true, Bool.false_eq_true, ↓reduceIte, if_false, if_true]
        rfl
    · have hge : i = it.items.length := by simp at h; omega
      subst hge
      simp only [go_sem, ↓reduceIte, Nat.reduceLT, Nat.reduceLeDiff, Nat.reduceAdd, Nat.reduceSub, Nat.reduceMul, Nat.reduceEqDiff, Nat.reduceBEq, Nat.reduceMod, Nat.reduceDiv, Int.reduceToNat, reduceCtorEq, Int.reduceLT, Int.reduceLE, Int.reduceGT, Int.reduceGE, Int.reduceAdd, Int.reduceSub, Int.reduceMul, Int.reduceNeg, Int.reduceEq, Int.reduceNe, Int.reduceBNe, Int.reduceBEq, Int.reduceDiv, List.take_length, ItemD.cells]
      cases hn : it.items with
      | nil =>
        simp only [go_sem, ↓reduceIte, Nat.reduceLT, Nat.reduceLeDiff, Nat.reduceAdd, Nat.reduceSub, Nat.reduceMul, Nat.reduceEqDiff, Nat.reduceBEq, Nat.reduceMod, Nat.reduceDiv, Int.reduceToNat, reduceCtorEq, Int.reduceLT, Int.reduceLE, Int.reduceGT, Int.reduceGE, Int.reduceAdd, Int.reduceSub, Int.reduceMul, Int.reduceNeg, Int.reduceEq, Int.reduceNe, Int.reduceBNe, Int.reduceBEq, Int.reduceDiv, repI]
        refine finOneD (r' := .agg [.bool it.list, .str it.text, .ext nilP]) ?_ (dulls_agg (.cons (.refl _) (.cons (.refl _) (.cons (.nil _ _) .nil)))) (fun _ e => by cases e) (fun _ e => by cases e)
        show resOf _ _ [.cell 2 54] = _
        simp only [go_sem, ↓reduceIte, Nat.reduceLT, Nat.reduceLeDiff, Nat.reduceAdd, Nat.reduceSub, Nat.reduceMul, Nat.reduceEqDiff, Nat.reduceBEq, Nat.reduceMod, Nat.reduceDiv, Int.reduceToNat, reduceCtorEq, Int.reduceLT, Int.reduceLE, Int.reduceGT, Int.reduceGE, Int.reduceAdd, Int.reduceSub, Int.reduceMul, Int.reduceNeg, Int.reduceEq, Int.reduceNe, Int.reduceBNe, Int.reduceBEq, Int.reduceDiv]
      | cons y ys =>
        simp only [go_sem, ↓reduceIte, Nat.reduceLT, Nat.reduceLeDiff, Nat.reduceAdd, Nat.reduceSub, Nat.reduceMul, Nat.reduceEqDiff, Nat.reduceBEq, Nat.reduceMod, Nat.reduceDiv, Int.reduceToNat, reduceCtorEq, Int.reduceLT, Int.reduceLE, Int.reduceGT, Int.reduceGE, Int.reduceAdd, Int.reduceSub, Int.reduceMul, Int.reduceNeg, Int.reduceEq, Int.reduceNe, Int.reduceBNe, Int.reduceBEq, Int.reduceDiv, repI]
        refine finOneD (r' := .agg [.bool it.list, .str it.text, .sl true 3 (ItemD.av y :: ys.map ItemD.av)]) ?_ (dulls_agg (.cons (.refl _) (.cons (.refl _) (.cons (dsl _ _ _) .nil)))) (fun _ e => by cases e) (fun _ e => by cases e)
        show resOf _ _ [.cell 2 54] = _
        simp only [go_sem, ↓reduceIte, Nat.reduceLT, Nat.reduceLeDiff, Nat.reduceAdd, Nat.reduceSub, Nat.reduceMul, Nat.reduceEqDiff, Nat.reduceBEq, Nat.reduceMod, Nat.reduceDiv, Int.reduceToNat, reduceCtorEq, Int.reduceLT, Int.reduceLE, Int.reduceGT, Int.reduceGE, Int.reduceAdd, Int.reduceSub, Int.reduceMul, Int.reduceNeg, Int.reduceEq, Int.reduceNe, Int.reduceBNe, Int.reduceBEq, Int.reduceDiv]
termination_by SizeOf.sizeOf it
decreasing_by exact item_lt hx
/-- What a typed value of the type Item is. -/
theorem bulks_map {α : Type} (f : α → AV) (g : α → Nat) (h : ∀ a, g a ≤ (f a).bulk) : ∀ l : List α, (l.map g).sum ≤ AV.bulks (l.map f)
  | [] => by simp [AV.bulks]
  | a :: l => by
    rw [List.map_cons, List.map_cons, List.sum_cons, AV.bulks]
    have := bulks_map f g h l
    have := h a
    omega
theorem bulks_mem : ∀ {xs : List AV} {x : AV}, x ∈ xs → x.bulk ≤ AV.bulks xs
  | y :: ys, x, h => by
    rw [AV.bulks]
    rcases List.mem_cons.1 h with rfl | h
    · omega
    · have := bulks_mem h; omega
theorem wt_bulk (it : ItemD) : it.wt ≤ it.av.bulk := by
  rw [wt_eq, it.av_eq, ItemD.cells]
  simp only [AV.bulk, AV.bulks]
  have key : ∀ xs : List ItemD, (∀ x ∈ xs, x.wt ≤ x.av.bulk) → wts xs ≤ AV.bulks (xs.map ItemD.av) := by
    intro xs
    induction xs with
    | nil => intro _; rw [wts_nil]; omega
    | cons x xs ih =>
      intro h
      rw [wts_cons, List.map_cons, AV.bulks]
      have := ih fun y hy => h y (List.mem_cons_of_mem _ hy)
      have := h x (by simp)
      omega
  have := key it.items fun x hx => wt_bulk x
  omega
termination_by SizeOf.sizeOf it
decreasing_by exact item_lt hx
theorem map_of_all {α : Type} {f : α → AV} : ∀ es : List AV, (∀ y ∈ es, ∃ a, y = f a) → ∃ l : List α, es = l.map f
  | [], _ => ⟨[], rfl⟩
  | y :: es, h => by
    obtain ⟨a, rfl⟩ := h y (by simp)
    obtain ⟨l, rfl⟩ := map_of_all es fun x hx => h x (List.mem_cons_of_mem _ hx)
    exact ⟨a :: l, rfl⟩
theorem ty_item : ∀ (n : Nat) {x : AV}, Ty ti 54 x → x.bulk ≤ n → ∃ it : ItemD, x = it.av := by
  intro n
  induction n with
  | zero =>
    intro x h hb
    cases x <;> simp [AV.bulk] at hb
  | succ n ih =>
    intro x h hb
    obtain ⟨xs, rfl, hl, hf⟩ := ty_struct rfl h
    have hl : xs.length = 3 := hl
    match xs, hl with
    | [a, b, c], _ =>
      have ha := hf 0 _ _ _ _ rfl rfl
      have hb' := hf 1 _ _ _ _ rfl rfl
      have hc := hf 2 _ _ _ _ rfl rfl
      obtain ⟨l, rfl⟩ := ty_bool rfl ha
      obtain ⟨t, rfl, _⟩ := ty_str rfl hb'
      obtain ⟨es, rfl, _, hes⟩ := ty_slice rfl hc
      have hb2 : AV.bulks es ≤ n := by
        simp only [List.flatMap_cons, List.flatMap_nil, AV.flat, AV.bulk, AV.bulks, List.cons_append, List.nil_append] at hb
        omega
      obtain ⟨is, rfl⟩ := map_of_all (f := ItemD.av) es fun y hy => ih (hes y hy) (Nat.le_trans (bulks_mem hy) hb2)
      refine ⟨.mk l t is, ?_⟩
      rw [ItemD.av, avs_map]
      rfl
end Go.Proofs.Ytjfnmlheehbojaa.VA
