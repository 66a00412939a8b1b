/- limbo.Push: the limbo told is of new memory alone. Limbos as data: places, one less. The page's own push into a limbo. Functions that write over the rows of what they are given: what is kept. tarnlaw0.Tx writes over a transaction's rows, and over nothing else. tarnlaw0.Txs, Limbo: they write over rows of transactions, and over nothing else. tarnlaw0.Limbo: it writes over a limbo's rows, and over nothing else. Laws that write over what they were told: helps. LimboPushes: the law. The 48 that LimboBack pushes: as data. LimboBack: the law. Two laws on limbos. -/
import Derived.Test.YtpepfhbfooeoeaaT1
import Derived.Test.YtpepfhbfooeoeaaT2
import Derived.Test.YtpepfhbfooeoeaaT3
import Derived.Test.YtpepfhbfooeoeaaT4
import Derived.Test.YtpepfhbfooeoeaaT5
import Derived.Test.YtpepfhbfooeoeaaT6
import Derived.Deep.LoopGhost
import Derived.WalkKit
set_option linter.unusedSimpArgs false
set_option linter.unusedVariables false
section
namespace Go.Proofs.Ytpepfhbfooeoeaa.VA
set_option maxRecDepth 10000
set_option maxHeartbeats 16000000

def HeldD.dull (h : HeldD) : AV := .agg [.int .i64 h.t.frm, .int .i64 h.t.nonce, .int .u64 (lim h.t.tip 0), .int .u64 (lim h.t.tip 1), .int .u64 (lim h.t.tip 2), .int .u64 (lim h.t.tip 3), .int .u64 (lim h.t.cap 0), .int .u64 (lim h.t.cap 1), .int .u64 (lim h.t.cap 2), .int .u64 (lim h.t.cap 3), .int .u64 (lim h.t.bcap 0), .int .u64 (lim h.t.bcap 1), .int .u64 (lim h.t.bcap 2), .int .u64 (lim h.t.bcap 3), .int .u64 (lim h.t.value 0), .int .u64 (lim h.t.value 1), .int .u64 (lim h.t.value 2), .int .u64 (lim h.t.value 3), .int .i64 h.t.gas, .sl true 1 (h.t.hashes.map (AV.int .u64)), .sl true 1 (h.t.blobs.map AV.str), .int .i64 h.n]
theorem held_dull (h : HeldD) : Dull h.dull h.av := by
  refine dulls_agg ?_
  repeat' (first | exact Dulls.nil | exact Dull.refl _ | exact Dull.sl _ _ _ _ rfl (fun j x y hx hy => by rw [hx] at hy; cases hy; exact .refl _) | refine Dulls.cons ?_ ?_)
theorem helds_map (l : List HeldD) (fr : Bool) : Dull (.sl fr 22 (l.map HeldD.dull)) (.sl false 22 (l.map HeldD.av)) := .sl fr 22 _ _ (by simp) fun j x y hx hy => by
  rw [List.getElem?_map] at hx hy
  cases e : l[j]? with
  | none => rw [e] at hx; cases hx
  | some t => rw [e] at hx hy; cases hx; cases hy; exact held_dull t
theorem c_pool_HeldsT (l : List HeldD) (hl : l.length * 208 ≤ reachBytes) (hok : ∀ a ∈ l, a.ok) : Contract Try.prog 97 [limbo l] (.own false 22 (l.map HeldD.dull)) := by
  unfold reachBytes at hl
  refine contract_of (C := cf 23 [0, 2, 3, 5, 6, 7, 8, 9] (fun _ => [])) (cf_ok _ _ _) (fn := Try.f97) Try.func97 (by kernel_rfl) rfl (by kernel_rfl) (by simp [cf]) (plain1 (limbo_plain l)) (by decide) (noCell (by kernel_rfl)) ?_
  simp only [go_sem, seval, limbo, List.length_map]
  refine ex_iter [0, 3, 6, 7, 8] (fun i : Nat => ⟨[(0, .sl false 22 (l.map HeldD.av)), (3, .own false 22 ((l.take i).map HeldD.dull)), (6, .sl false 22 (l.map HeldD.av)), (7, .int .i64 l.length), (8, .int .i64 i)], [], []⟩) (fun i => i ≤ l.length) (fun i => l.length - i) 0 ?_ ?_ ?_
  · simp only [ASt.keep, consIf, keepL, keepV, AV.isBot, List.contains_cons, List.contains_nil, Nat.reduceBEq, Bool.or_false, Bool.false_or, Bool.or_true, Bool.true_or, beq_self_eq_true, Bool.false_eq_true, ↓reduceIte, if_false, if_true]
    rfl
  · exact Nat.zero_le _
  · intro n i hi next
    simp only [go_sem, seval, List.length_map]
    refine ex_br (fun h => ?_) (fun h => ?_)
    · have hlt : i < l.length := by simpa using h
      obtain ⟨x, ex⟩ : ∃ x, l[i]? = some x := ⟨_, List.getElem?_eq_getElem hlt⟩
      have hs : (l.take i).map HeldD.dull ++ [x.dull] = (l.take (i + 1)).map HeldD.dull := take_snoc HeldD.dull ex
      have hc : Contract Try.prog 85 [txE x.t] (.agg x.t.cellsT) := c_tx_CopyT x.t (hok x (List.mem_of_getElem? ex)).t
      simp only [go_sem, seval, List.length_map, List.getElem?_map, ex, Int.toNat_natCast, HeldD.av]
      repeat with_reducible refine And.intro (by first | omega | (simp only [List.length_cons, List.length_append, List.length_nil, List.length_map, List.length_take, List.length_drop, List.length_set]; omega)) ?_
      try simp only [go_sem, seval, List.length_map, List.getElem?_map, ex, Int.toNat_natCast, HeldD.av]
      refine ex_draw [] [] (.quiet 0 (.quiet 1 (.quiet 2 (.quiet 4 (.quiet 5 (.one 3 (.one 6 (.one 7 (.one 8 (.quiet 9 (.fin))))))))))) (by kernel_rfl) ?_
      simp only [go_sem, seval]
      refine ex_call (by exact hc) ?_
      simp only [go_sem, seval, List.length_map, TxD.cellsT]
      repeat with_reducible refine And.intro (by first | omega | (simp only [List.length_cons, List.length_append, List.length_nil, List.length_map, List.length_take, List.length_drop, List.length_set]; omega)) ?_
      try simp only [go_sem, seval, List.length_map]
      refine next (i + 1) _ (by omega) (by omega) ?_
      rw [← wi64_nat i (by omega), ← hs]
      simp only [ASt.keep, consIf, keepL, keepV, AV.isBot, List.contains_cons, List.contains_nil, Nat.reduceBEq, Bool.or_false, Bool.false_or, Bool.or_true, Bool.true_or, beq_self_eq_true, Bool.false_eq_true, ↓reduceIte, if_false, if_true]
      try rfl
    · have hge : i = l.length := by simp at h; omega
      subst hge
      simp only [go_sem, seval, List.take_length]
      refine finOne ?_ (fun _ e => by cases e)
      show resOf _ _ [.tmp 2] = _
      simp only [go_sem, seval]
theorem finPushT {C : Cfg} {σ : ASt} {rs : List ResultVar} {sh : Bool} {es : List AV} {e : Int} (h : resOf C σ rs = some (.tup [.own sh 22 es, .int .i64 e])) : BodyPost C rs (.tup [.sl true 22 es, .int .i64 e]) .ret σ :=
  finTupD h (.cons (.froz (.refl _)) (.cons (.dull (.refl _)) .nil))
/-- What is pushed: the limbo, the error. -/
def pushErr (l : List HeldD) (t : TxD) (n : Int) : Int :=
  if validTx t = true ∧ limboOk l = true ∧ 0 ≤ n ∧ n ≤ 1099511627776 then (if thereAt l (idTx t) (posOf l (idTx t)) = true then 4 else if 48 ≤ l.length then 5 else 0) else 1
def insAt (l : List HeldD) (p : Nat) (x : HeldD) : List HeldD := l.take p ++ x :: l.drop p
def pushOut (l : List HeldD) (t : TxD) (n : Int) : List HeldD := if pushErr l t n = 0 then insAt l (posOf l (idTx t)) ⟨t, n⟩ else []
theorem insAt_map (l : List HeldD) (p : Nat) (x : HeldD) (f : HeldD → AV) : (insAt l p x).map f = (l.map f).take p ++ f x :: (l.map f).drop p := by
  unfold insAt
  rw [List.map_append, List.map_cons, List.map_take, List.map_drop]
theorem t_InsertH (l : List HeldD) (p : Nat) (hp : p ≤ l.length) (hl : l.length ≤ 1000000) (x : AV) : ∃ sh, Through Try.prog 96 [.own false 22 (l.map HeldD.dull), .int .i64 p, .own false 22 [x]] (.own sh 22 ((l.map HeldD.dull).take p ++ x :: (l.map HeldD.dull).drop p)) := by
  rcases Nat.lt_or_ge p l.length with h | h
  · exact ⟨false, t_Insert (l.map HeldD.dull) x p (by simpa using h) (by simpa using hl)⟩
  · have e : p = (l.map HeldD.dull).length := by rw [List.length_map]; omega
    have := t_InsertEnd (l.map HeldD.dull) (by simpa using hl) x
    rw [← e] at this
    refine ⟨true, ?_⟩
    rw [List.take_of_length_le (by omega), List.drop_eq_nil_of_le (by omega)]
    exact this
theorem c_limbo_PushT (l : List HeldD) (t : TxD) (n : Int) (hl : l.length * 208 ≤ reachBytes) (hok : ∀ a ∈ l, a.ok) (ht : t.ok) : Contract Try.prog 49 [limbo l, txE t, .int .i64 n] (.tup [.sl true 22 ((pushOut l t n).map HeldD.dull), .int .i64 (pushErr l t n)]) := by
  obtain ⟨res, hres⟩ : ∃ res, res = (.tup [.sl true 22 ((pushOut l t n).map HeldD.dull), .int .i64 (pushErr l t n)] : AV) := ⟨_, rfl⟩
  rw [← hres]
  have err : ∀ e : Int, pushErr l t n = e → e ≠ 0 → res = .tup [.sl true 22 [], .int .i64 e] := fun e he hne => by
    rw [hres]; unfold pushOut; rw [he, if_neg hne]; rfl
  have good : pushErr l t n = 0 → res = .tup [.sl true 22 ((l.map HeldD.dull).take (posOf l (idTx t)) ++ HeldD.dull ⟨t, n⟩ :: (l.map HeldD.dull).drop (posOf l (idTx t))), .int .i64 0] := fun he => by
    rw [hres]; unfold pushOut; rw [he, if_pos rfl, insAt_map]
  clear hres
  have hID := r_txID t ht
  have hL := c_pool_Limbo l hl hok
  have hH := c_pool_HeldsT l hl hok
  have hC : Contract Try.prog 85 [txE t] (.agg t.cellsT) := c_tx_CopyT t ht
  have e1 : ¬ (validTx t = true ∧ limboOk l = true ∧ 0 ≤ n ∧ n ≤ 1099511627776) → pushErr l t n = 1 := fun h => if_neg h
  refine contract_of (C := cf 53 [0, 2, 4, 6, 7, 8, 9, 10, 11, 31, 38, 40] ( ownI)) (cf_ok _ _ _) (fn := Try.f49) Try.func49 (by kernel_rfl) rfl (by kernel_rfl) (by simp [cf]) (plain3 (limbo_plain l) t.plain (.int _ _)) (by decide) (noCell (by kernel_rfl)) ?_
  simp only [go_sem, seval, limbo, TxD.av, TxD.cells, ints, strs, ownI_Insert, ownI_ID, ownI_Limbo, ownI_place, ownI_Helds, ownI_Copy]
  refine ex_call (by exact hID) ?_
  cases hv : validTx t
  case' false =>
    rw [err 1 (e1 (by rw [hv]; rintro ⟨h, _⟩; cases h)) (by decide)]
    simp only [go_sem, seval, ownI_Insert, ownI_ID, ownI_Limbo, ownI_place, ownI_Helds, ownI_Copy]
    refine finPushT (sh := false) ?_
    show resOf _ _ [.tmp 6, .tmp 7] = _
    simp only [go_sem, seval]
  simp only [go_sem, seval, ownI_Insert, ownI_ID, ownI_Limbo, ownI_place, ownI_Helds, ownI_Copy]
  refine ex_call (by exact hL) ?_
  cases hy : limboOk l
  case' false =>
    rw [err 1 (e1 (by rw [hy]; rintro ⟨_, h, _⟩; cases h)) (by decide)]
    simp only [go_sem, seval, ownI_Insert, ownI_ID, ownI_Limbo, ownI_place, ownI_Helds, ownI_Copy]
    refine finPushT (sh := false) ?_
    show resOf _ _ [.tmp 6, .tmp 7] = _
    simp only [go_sem, seval]
  cases d1 : decide (n < 0)
  case' true =>
    rw [err 1 (e1 (by have := of_decide_eq_true d1; omega)) (by decide)]
    simp only [go_sem, seval, d1, ownI_Insert, ownI_ID, ownI_Limbo, ownI_place, ownI_Helds, ownI_Copy]
    refine finPushT (sh := false) ?_
    show resOf _ _ [.tmp 6, .tmp 7] = _
    simp only [go_sem, seval]
  cases d2 : decide (n > 1099511627776)
  case' true =>
    rw [err 1 (e1 (by have := of_decide_eq_true d2; omega)) (by decide)]
    simp only [go_sem, seval, d1, d2, ownI_Insert, ownI_ID, ownI_Limbo, ownI_place, ownI_Helds, ownI_Copy]
    refine finPushT (sh := false) ?_
    show resOf _ _ [.tmp 6, .tmp 7] = _
    simp only [go_sem, seval]
  have e2 : pushErr l t n = (if thereAt l (idTx t) (posOf l (idTx t)) = true then 4 else if 48 ≤ l.length then 5 else 0) := if_pos ⟨hv, hy, by have := of_decide_eq_false d1; omega, by have := of_decide_eq_false d2; omega⟩
  obtain ⟨h48, hs, hva⟩ := limbo_sorted hy
  have hpp := place_pos l (idTx t) hs
  have hP := c_place l hok hva (by omega) _ _ hpp
  have hle := hpp.1
  obtain ⟨sh, hI⟩ := t_InsertH l (posOf l (idTx t)) hle (by omega) (HeldD.dull ⟨t, n⟩)
  simp only [go_sem, seval, d1, d2, ownI_Insert, ownI_ID, ownI_Limbo, ownI_place, ownI_Helds, ownI_Copy]
  refine ex_call (by exact hP) ?_
  cases hth : thereAt l (idTx t) (posOf l (idTx t))
  case' true =>
    rw [err 4 (by rw [e2, if_pos hth]) (by decide)]
    simp only [go_sem, seval, ownI_Insert, ownI_ID, ownI_Limbo, ownI_place, ownI_Helds, ownI_Copy]
    refine finPushT (sh := false) ?_
    show resOf _ _ [.tmp 6, .tmp 7] = _
    simp only [go_sem, seval]
  rw [hth, if_neg (by decide)] at e2
  cases d3 : decide ((l.length : Int) ≥ 48)
  case' true =>
    rw [err 5 (by rw [e2, if_pos (by have := of_decide_eq_true d3; omega)]) (by decide)]
    simp only [go_sem, seval, d3, List.length_map, ownI_Insert, ownI_ID, ownI_Limbo, ownI_place, ownI_Helds, ownI_Copy]
    refine finPushT (sh := false) ?_
    show resOf _ _ [.tmp 6, .tmp 7] = _
    simp only [go_sem, seval]
  rw [good (by rw [e2, if_neg (by have := of_decide_eq_false d3; omega)])]
  simp only [go_sem, seval, d3, List.length_map, ownI_Insert, ownI_ID, ownI_Limbo, ownI_place, ownI_Helds, ownI_Copy]
  refine ex_draw [] [] (.quiet 0 (.quiet 2 (.quiet 3 (.quiet 5 (.one 1 (.one 4 (.one 6 (.one 7 (.one 8 (.quiet 9 (.quiet 10 (.fin)))))))))))) (by kernel_rfl) ?_
  simp only [go_sem, seval, ex_ord_two, ex_ord_three, ownI_Insert, ownI_ID, ownI_Limbo, ownI_place, ownI_Helds, ownI_Copy]
  refine ex_call (by exact hH) ?_
  simp only [go_sem, seval, ownI_Insert, ownI_ID, ownI_Limbo, ownI_place, ownI_Helds, ownI_Copy]
  refine ex_call (by exact hC) ?_
  simp only [go_sem, seval, TxD.cellsT, ownI_Insert, ownI_ID, ownI_Limbo, ownI_place, ownI_Helds, ownI_Copy]
  refine ex_through (by exact hI) ?_
  simp only [go_sem, seval, ownI_Insert, ownI_ID, ownI_Limbo, ownI_place, ownI_Helds, ownI_Copy]
  refine finPushT (sh := sh) ?_
  show resOf _ _ [.tmp 6, .tmp 7] = _
  simp only [go_sem, seval]
end Go.Proofs.Ytpepfhbfooeoeaa.VA
end
section
namespace Go.Proofs.Ytpepfhbfooeoeaa.VA
set_option maxRecDepth 10000
set_option maxHeartbeats 16000000

theorem place_unique {l : List HeldD} {id : Int} {p q : Nat} (hp : PlaceOf l id p) (hq : PlaceOf l id q) : p = q := by
  rcases Nat.lt_trichotomy p q with h | h | h
  · obtain ⟨x, ex⟩ : ∃ x, l[p]? = some x := ⟨_, List.getElem?_eq_getElem (Nat.lt_of_lt_of_le h hq.1)⟩
    have h1 := hp.2 p x ex
    have h2 := hq.2 p x ex
    omega
  · exact h
  · obtain ⟨x, ex⟩ : ∃ x, l[q]? = some x := ⟨_, List.getElem?_eq_getElem (Nat.lt_of_lt_of_le h hp.1)⟩
    have h1 := hp.2 q x ex
    have h2 := hq.2 q x ex
    omega
theorem sorted_lt' {l : List HeldD} (h : sortedH l) {j k : Nat} {x y : HeldD} (hjk : j < k) (e1 : l[j]? = some x) (e2 : l[k]? = some y) : idTx x.t < idTx y.t :=
  sorted_lt h (k - j - 1) j x y e1 (by rw [show j + (k - j - 1) + 1 = k by omega]; exact e2)
theorem place_at {l : List HeldD} (h : sortedH l) {i : Nat} {x : HeldD} (ex : l[i]? = some x) : PlaceOf l (idTx x.t) i := by
  refine ⟨Nat.le_of_lt (List.getElem?_eq_some_iff.1 ex).1, fun k y ey => ?_⟩
  rcases Nat.lt_trichotomy k i with hk | hk | hk
  · have := sorted_lt' h hk ey ex; omega
  · subst hk; rw [ey] at ex; cases ex; omega
  · have := sorted_lt' h hk ex ey; omega
theorem limbo_iff (l : List HeldD) : limboOk l = true ↔ l.length ≤ 48 ∧ sortedH l ∧ ∀ a ∈ l, heldOk a = true := by
  constructor
  · intro h
    obtain ⟨h1, h2, _⟩ := limbo_sorted h
    refine ⟨h1, h2, fun a ha => ?_⟩
    unfold limboOk at h
    simp only [Bool.and_eq_true] at h
    obtain ⟨k, hk⟩ := List.getElem?_of_mem ha
    have := List.all_eq_true.1 h.2 k (List.mem_range.2 (List.getElem?_eq_some_iff.1 hk).1)
    rw [heldAt_get hk, Bool.and_eq_true] at this
    exact this.1
  · rintro ⟨h1, h2, h3⟩
    rw [limbo_yes, decide_eq_true h1]
    intro k hk
    obtain ⟨x, ex⟩ : ∃ x, l[k]? = some x := ⟨_, List.getElem?_eq_getElem hk⟩
    rw [heldAt_get ex, h3 x (List.mem_of_getElem? ex), Bool.true_and]
    cases k with
    | zero => rfl
    | succ k =>
      obtain ⟨y, ey⟩ : ∃ y, l[k]? = some y := ⟨_, List.getElem?_eq_getElem (by omega)⟩
      simp only [heldAfter, ey]
      exact decide_eq_true (h2 k y x ey ex)
theorem erase_get {l : List HeldD} {i k : Nat} {x : HeldD} (e : (l.eraseIdx i)[k]? = some x) : ∃ j, j ≠ i ∧ l[j]? = some x ∧ (k < i → j = k) ∧ (i ≤ k → j = k + 1) := by
  rw [List.getElem?_eraseIdx] at e
  split at e
  · exact ⟨k, by omega, e, fun _ => rfl, fun _ => by omega⟩
  · exact ⟨k + 1, by omega, e, fun _ => by omega, fun _ => rfl⟩
theorem erase_limbo {l : List HeldD} (h : limboOk l = true) (i : Nat) (hi : i < l.length) : limboOk (l.eraseIdx i) = true := by
  rw [limbo_iff] at h ⊢
  obtain ⟨h1, h2, h3⟩ := h
  refine ⟨by rw [List.length_eraseIdx, if_pos hi]; omega, fun k x y e1 e2 => ?_, fun a ha => h3 a (List.mem_of_mem_eraseIdx ha)⟩
  obtain ⟨j, _, ej, q1, q2⟩ := erase_get e1
  obtain ⟨j', _, ej', q1', q2'⟩ := erase_get e2
  refine sorted_lt' h2 ?_ ej ej'
  rcases Nat.lt_or_ge k i with hk | hk
  · rw [q1 hk]
    rcases Nat.lt_or_ge (k + 1) i with hk' | hk'
    · rw [q1' hk']; omega
    · rw [q2' hk']; omega
  · rw [q2 hk, q2' (by omega)]; omega
theorem pull_at {l : List HeldD} (h : limboOk l = true) {i : Nat} {x : HeldD} (ex : l[i]? = some x) : pullOf l (idTx x.t) = (l.eraseIdx i, x, 0) := by
  obtain ⟨_, hs, _⟩ := limbo_sorted h
  unfold pullOf
  rw [place_unique (place_pos l _ hs) (place_at hs ex), ex]
  show (if idTx x.t = idTx x.t then _ else _) = _
  rw [if_pos rfl]
theorem pull_none {l : List HeldD} (h : limboOk l = true) {i : Nat} {x : HeldD} (ex : l[i]? = some x) : pullOf (l.eraseIdx i) (idTx x.t) = ([], zeroH, 3) := by
  obtain ⟨_, hs, _⟩ := limbo_sorted h
  unfold pullOf
  generalize posOf (l.eraseIdx i) (idTx x.t) = p
  cases e : (l.eraseIdx i)[p]? with
  | none => rfl
  | some y =>
    obtain ⟨j, hj, ej, _⟩ := erase_get e
    show (if idTx y.t = idTx x.t then _ else _) = _
    rw [if_neg]
    intro he
    rcases Nat.lt_or_gt_of_ne hj with hk | hk
    · have := sorted_lt' hs hk ej ex; omega
    · have := sorted_lt' hs hk ex ej; omega
theorem c_Without (l : List HeldD) (i : Nat) (hi : i < l.length) (hl : l.length * 208 ≤ reachBytes) (hok : ∀ a ∈ l, a.ok) : Contract Try.prog 60 [limbo l, .int .i64 i] (.own false 22 ((l.eraseIdx i).map HeldD.av)) := by
  have h1 := c_CopyLimbo (l.take i) (by rw [List.length_take]; unfold reachBytes at *; omega) (fun a ha => hok a (List.mem_of_mem_take ha))
  have h2 := c_CopyLimbo (l.drop (i + 1)) (by rw [List.length_drop]; unfold reachBytes at *; omega) (fun a ha => hok a (List.mem_of_mem_drop ha))
  have he : (l.eraseIdx i).map HeldD.av = (l.take i).map HeldD.av ++ (l.drop (i + 1)).map HeldD.av := by rw [List.eraseIdx_eq_take_drop_succ, List.map_append]
  have w1 : IntKind.i64.wrap ((i : Int) + 1) = ((i + 1 : Nat) : Int) := by unfold reachBytes at hl; rw [IntKind.wrap_i64]; omega
  have t1 : (l.map HeldD.av).take i = (l.take i).map HeldD.av := List.map_take.symm
  have t2 : (l.map HeldD.av).drop (i + 1) = (l.drop (i + 1)).map HeldD.av := List.map_drop.symm
  unfold reachBytes at hl
  refine contract_of (C := cf 17 [0, 1, 4, 5] (fun _ => [])) (cf_ok _ _ _) (fn := Try.f60) Try.func60 (by kernel_rfl) rfl (by kernel_rfl) (by simp [cf]) (plain2 (limbo_plain l) (.int _ _)) (by decide) (noCell (by kernel_rfl)) ?_
  simp only [go_sem, seval, limbo, List.length_map, Int.toNat_natCast]
  refine ⟨⟨⟨by omega, by omega⟩, by omega⟩, ?_⟩
  have e0 : (l.map HeldD.av).take (i - 0) = (l.take i).map HeldD.av := by rw [Nat.sub_zero, t1]
  rw [e0]
  refine ex_call (by exact h1) ?_
  simp only [go_sem, seval, w1, List.length_map, Int.toNat_natCast]
  refine ⟨⟨by omega, by omega⟩, ?_⟩
  have e1 : ((l.map HeldD.av).drop (i + 1)).take (l.length - (i + 1)) = (l.drop (i + 1)).map HeldD.av := by
    rw [t2]
    exact List.take_of_length_le (by rw [List.length_map, List.length_drop]; omega)
  rw [e1]
  refine ex_call (by exact h2) ?_
  simp only [go_sem, seval, List.length_map]
  refine ⟨by rw [List.length_take, List.length_drop]; omega, ?_⟩
  rw [he]
  refine finOne ?_ (fun _ e => by cases e)
  show resOf _ _ [.tmp 4] = _
  simp only [go_sem, seval]
theorem held_ok {l : List HeldD} (h : ∀ a ∈ l, a.ok) (i : Nat) : ∀ a ∈ l.eraseIdx i, a.ok := fun a ha => h a (List.mem_of_mem_eraseIdx ha)
theorem zeroH_ok : zeroH.ok := ⟨by constructor <;> first | decide | (intro a ha; cases ha), by decide⟩
end Go.Proofs.Ytpepfhbfooeoeaa.VA
end
section
namespace Go.Proofs.Ytpepfhbfooeoeaa.VA
set_option maxRecDepth 10000
set_option maxHeartbeats 16000000

/-- Where an ID stands, or -1. -/
def heldIx (l : List HeldD) (id : Int) : Int := if thereAt l id (posOf l id) = true then posOf l id else -1
theorem there_iff {l : List HeldD} {id : Int} (hs : sortedH l) : thereAt l id (posOf l id) = true ↔ ∃ x ∈ l, (idTx x.t : Int) = id := by
  constructor
  · intro h
    unfold thereAt at h
    cases e : l[posOf l id]? with
    | none => rw [e] at h; cases h
    | some x => rw [e] at h; exact ⟨x, List.mem_of_getElem? e, by simpa using h⟩
  · rintro ⟨x, hx, rfl⟩
    obtain ⟨i, ei⟩ := List.getElem?_of_mem hx
    have := place_unique (place_pos l (idTx x.t) hs) (place_at hs ei)
    unfold thereAt
    rw [this, ei]
    simp
theorem c_ref16_Held (l : List HeldD) (id : Int) (hl : l.length * 208 ≤ reachBytes) (hok : ∀ a ∈ l, a.ok) (hs : sortedH l) (hva : ∀ a ∈ l, validTx a.t = true) : Contract Try.prog 62 [limbo l, .int .u64 id] (.int .i64 (heldIx l id)) := by
  unfold reachBytes at hl
  refine contract_of (C := cf 21 [0, 1, 4, 5, 9, 19] (fun _ => [])) (cf_ok _ _ _) (fn := Try.f62) Try.func62 (by kernel_rfl) rfl (by kernel_rfl) (by simp [cf]) (plain2 (limbo_plain l) (.int _ _)) (by decide) (noCell (by kernel_rfl)) ?_
  simp only [go_sem, seval, limbo, List.length_map]
  refine ex_iter [0, 1, 5] (fun i : Nat => ⟨[(0, .sl false 22 (l.map HeldD.av)), (1, .int .u64 id), (5, .int .i64 i)], [], []⟩) (fun i => i ≤ l.length ∧ ∀ k x, k < i → l[k]? = some x → (idTx x.t : Int) ≠ id) (fun i => l.length - i) 0 ?_ ?_ ?_
  · simp only [ASt.keep, consIf, keepL, keepV, AV.isBot, List.contains_cons, List.contains_nil, Nat.reduceBEq, Bool.or_false, Bool.false_or, Bool.or_true, Bool.true_or, beq_self_eq_true, Bool.false_eq_true, ↓reduceIte, if_false, if_true]
    try rfl
  · exact ⟨Nat.zero_le _, fun k x h => absurd h (Nat.not_lt_zero _)⟩
  · rintro n i ⟨hi, hno⟩ next
    simp only [go_sem, seval, List.length_map]
    refine ex_br (fun h => ?_) (fun h => ?_)
    · have hlt : i < l.length := by simpa using h
      obtain ⟨x, ex⟩ : ∃ x, l[i]? = some x := ⟨_, List.getElem?_eq_getElem hlt⟩
      have hx := List.mem_of_getElem? ex
      have hID : Contract Try.prog 57 [txE x.t] (.int .u64 (idTx x.t)) := c_ref7_ID x.t (hok x hx).t (hva x hx)
      simp only [go_sem, seval, List.length_map, List.getElem?_map, ex, Option.map_some, Int.toNat_natCast, HeldD.av]
      repeat with_reducible refine And.intro (by first | omega | (simp only [List.length_cons, List.length_append, List.length_nil, List.length_map, List.length_take, List.length_drop, List.length_set]; omega)) ?_
      try simp only [go_sem, seval, List.length_map, List.getElem?_map, ex, Option.map_some, Int.toNat_natCast, HeldD.av]
      refine ex_call (by exact hID) ?_
      cases he : ((idTx x.t : Int) == id)
      · simp only [go_sem, seval, he]
        refine next (i + 1) _ ⟨by omega, fun k y hk ey => ?_⟩ (by omega) ?_
        · rcases Nat.lt_or_ge k i with h1 | h1
          · exact hno k y h1 ey
          · have : k = i := by omega
            subst this
            rw [ex] at ey
            cases ey
            simpa using he
        · rw [← wi64_nat i (by omega)]
          simp only [ASt.keep, consIf, keepL, keepV, AV.isBot, List.contains_cons, List.contains_nil, Nat.reduceBEq, Bool.or_false, Bool.false_or, Bool.or_true, Bool.true_or, beq_self_eq_true, Bool.false_eq_true, ↓reduceIte, if_false, if_true]
          try rfl
      · have e : (idTx x.t : Int) = id := by simpa using he
        have hp : heldIx l id = i := by
          have hu := place_unique (place_pos l id hs) (e ▸ place_at hs ex)
          unfold heldIx
          rw [hu, if_pos (by unfold thereAt; rw [ex]; simpa using e)]
        rw [hp]
        simp only [go_sem, seval, he]
        refine finOne ?_ (fun _ e => by cases e)
        show resOf _ _ [.tmp 4] = _
        simp only [go_sem, seval]
    · have hge : i = l.length := by simp at h; omega
      have hp : heldIx l id = -1 := by
        unfold heldIx
        rw [if_neg]
        intro hc
        obtain ⟨x, hx, e⟩ := (there_iff hs).1 hc
        obtain ⟨k, ek⟩ := List.getElem?_of_mem hx
        exact hno k x (by have := (List.getElem?_eq_some_iff.1 ek).1; omega) ek e
      rw [hp]
      simp only [go_sem, seval]
      refine finOne ?_ (fun _ e => by cases e)
      show resOf _ _ [.tmp 4] = _
      simp only [go_sem, seval]
theorem c_ref20_Push (l : List HeldD) (t : TxD) (n : Int) (hl : l.length * 208 ≤ reachBytes) (hok : ∀ a ∈ l, a.ok) (ht : t.ok) (hy : limboOk l = true) (hv : validTx t = true) (hn : 0 ≤ n ∧ n ≤ 1099511627776) :
    Contract Try.prog 52 [limbo l, txE t, .int .i64 n] (.tup [.sl true 22 ((pushOut l t n).map HeldD.av), .int .i64 (pushErr l t n)]) := by
  obtain ⟨res, hres⟩ : ∃ res, res = (.tup [.sl true 22 ((pushOut l t n).map HeldD.av), .int .i64 (pushErr l t n)] : AV) := ⟨_, rfl⟩
  rw [← hres]
  have err : ∀ e : Int, pushErr l t n = e → e ≠ 0 → res = .tup [.sl true 22 [], .int .i64 e] := fun e he hne => by
    rw [hres]; unfold pushOut; rw [he, if_neg hne]; rfl
  have good : pushErr l t n = 0 → res = .tup [.sl true 22 (((l.take (posOf l (idTx t))).map HeldD.av ++ [HeldD.av ⟨t, n⟩]) ++ (l.drop (posOf l (idTx t))).map HeldD.av), .int .i64 0] := fun he => by
    rw [hres]; unfold pushOut insAt; rw [he, if_pos rfl, List.map_append, List.map_cons, List.append_assoc]; rfl
  clear hres
  obtain ⟨h48, hs, hva⟩ := limbo_sorted hy
  have hpp := place_pos l (idTx t) hs
  have e2 : pushErr l t n = (if thereAt l (idTx t) (posOf l (idTx t)) = true then 4 else if 48 ≤ l.length then 5 else 0) := if_pos ⟨hv, hy, hn.1, hn.2⟩
  have hID : Contract Try.prog 57 [txE t] (.int .u64 (idTx t)) := c_ref7_ID t ht hv
  have hHe := c_ref16_Held l (idTx t) hl hok hs hva
  have hC : Contract Try.prog 24 [txE t] (txE t) := r_Copy t ht
  generalize hp : posOf l (idTx t) = p at *
  obtain ⟨hle, hpl⟩ := hpp
  have hC1 := c_CopyLimbo (l.take p) (by rw [List.length_take]; unfold reachBytes at *; omega) (fun a ha => hok a (List.mem_of_mem_take ha))
  have hC2 := c_CopyLimbo (l.drop p) (by rw [List.length_drop]; unfold reachBytes at *; omega) (fun a ha => hok a (List.mem_of_mem_drop ha))
  have t1 : (l.map HeldD.av).take p = (l.take p).map HeldD.av := List.map_take.symm
  have t2 : (l.map HeldD.av).drop p = (l.drop p).map HeldD.av := List.map_drop.symm
  unfold heldIx at hHe
  rw [hp] at hHe
  refine contract_of (C := cf 52 [0, 2, 4, 6, 7, 8, 9, 10, 16, 19, 33] (fun _ => [])) (cf_ok _ _ _) (fn := Try.f52) Try.func52 (by kernel_rfl) rfl (by kernel_rfl) (by simp [cf]) (plain3 (limbo_plain l) t.plain (.int _ _)) (by decide) (noCell (by kernel_rfl)) ?_
  simp only [go_sem, seval, limbo, TxD.av, TxD.cells, ints, strs]
  refine ex_call (by exact hID) ?_
  simp only [go_sem, seval]
  refine ex_call (by exact hHe) ?_
  cases hth : thereAt l (idTx t) p
  case' true =>
    have d0 : decide ((p : Int) ≥ 0) = true := decide_eq_true (by omega)
    rw [err 4 (by rw [e2, if_pos hth]) (by decide)]
    simp only [go_sem, seval, d0]
    refine finPushT (sh := false) ?_
    show resOf _ _ [.tmp 6, .tmp 7] = _
    simp only [go_sem, seval]
  rw [hth, if_neg (by decide)] at e2
  simp only [go_sem, seval]
  cases d3 : decide ((l.length : Int) ≥ 48)
  case' true =>
    rw [err 5 (by rw [e2, if_pos (by have := of_decide_eq_true d3; omega)]) (by decide)]
    simp only [go_sem, seval, d3, List.length_map]
    refine finPushT (sh := false) ?_
    show resOf _ _ [.tmp 6, .tmp 7] = _
    simp only [go_sem, seval]
  rw [good (by rw [e2, if_neg (by have := of_decide_eq_false d3; omega)])]
  simp only [go_sem, seval, d3, List.length_map]
  refine ex_iter [0, 2, 4, 8, 9] (fun i : Nat => ⟨[(0, .sl false 22 (l.map HeldD.av)), (2, .int .i64 n), (4, .var 4 0), (8, .int .u64 (idTx t)), (9, .int .i64 i)], [(4, t.cells)], []⟩) (fun i => i ≤ p) (fun i => p - i) 0 ?_ ?_ ?_
  · simp only [ASt.keep, consIf, keepL, keepV, AV.isBot, List.contains_cons, List.contains_nil, Nat.reduceBEq, Bool.or_false, Bool.false_or, Bool.or_true, Bool.true_or, beq_self_eq_true, Bool.false_eq_true, ↓reduceIte, if_false, if_true]
    try rfl
  · exact Nat.zero_le _
  · intro r i hi next
    rcases Nat.lt_or_ge i p with hip | hip
    · obtain ⟨x, ex⟩ : ∃ x, l[i]? = some x := ⟨_, List.getElem?_eq_getElem (by omega)⟩
      have hx := List.mem_of_getElem? ex
      have hIDx : Contract Try.prog 57 [txE x.t] (.int .u64 (idTx x.t)) := c_ref7_ID x.t (hok x hx).t (hva x hx)
      have d4 : decide ((i : Int) < (l.length : Int)) = true := decide_eq_true (by omega)
      have d5 : decide ((idTx x.t : Int) < idTx t) = true := decide_eq_true ((hpl i x ex).2 hip)
      simp only [go_sem, seval, d4, List.length_map, List.getElem?_map, ex, Option.map_some, Int.toNat_natCast, HeldD.av]
      repeat with_reducible refine And.intro (by first | omega | (simp only [List.length_cons, List.length_append, List.length_nil, List.length_map, List.length_take, List.length_drop, List.length_set]; omega)) ?_
      try simp only [go_sem, seval, d4, List.length_map, List.getElem?_map, ex, Option.map_some, Int.toNat_natCast, HeldD.av]
      refine ex_call (by exact hIDx) ?_
      simp only [go_sem, seval, d5]
      refine next (i + 1) _ (by omega) (by omega) ?_
      rw [← wi64_nat i (by unfold reachBytes at hl; omega)]
      simp only [ASt.keep, consIf, keepL, keepV, AV.isBot, List.contains_cons, List.contains_nil, Nat.reduceBEq, Bool.or_false, Bool.false_or, Bool.or_true, Bool.true_or, beq_self_eq_true, Bool.false_eq_true, ↓reduceIte, if_false, if_true]
      try rfl
    · have hie : i = p := by omega
      subst hie
      rcases Nat.lt_or_ge i l.length with hil | hil
      · obtain ⟨x, ex⟩ : ∃ x, l[i]? = some x := ⟨_, List.getElem?_eq_getElem hil⟩
        have hx := List.mem_of_getElem? ex
        have hIDx : Contract Try.prog 57 [txE x.t] (.int .u64 (idTx x.t)) := c_ref7_ID x.t (hok x hx).t (hva x hx)
        have d4 : decide ((i : Int) < (l.length : Int)) = true := decide_eq_true (by omega)
        have d5 : decide ((idTx x.t : Int) < idTx t) = false := decide_eq_false (fun h => by have := (hpl i x ex).1 h; omega)
        simp only [go_sem, seval, d4, List.length_map, List.getElem?_map, ex, Option.map_some, Int.toNat_natCast, HeldD.av]
        repeat with_reducible refine And.intro (by first | omega | (simp only [List.length_cons, List.length_append, List.length_nil, List.length_map, List.length_take, List.length_drop, List.length_set]; omega)) ?_
        try simp only [go_sem, seval, d4, List.length_map, List.getElem?_map, ex, Option.map_some, Int.toNat_natCast, HeldD.av]
        refine ex_call (by exact hIDx) ?_
        simp only [go_sem, seval, d5]
        refine ex_draw [] [] (.quiet 0 (.quiet 1 (.quiet 2 (.quiet 4 (.quiet 6 (.one 3 (.one 5 (.one 7 (.one 8 (.one 9 (.quiet 10 (.fin)))))))))))) (by kernel_rfl) ?_
        simp only [go_sem, seval, ex_ord_two, ex_ord_three, List.length_map, Int.toNat_natCast, Nat.sub_zero, t1, t2, TxD.cells, ints, strs]
        refine ⟨by omega, ?_⟩
        refine ex_call (by exact hC1) ?_
        simp only [go_sem, seval, TxD.cells, ints, strs]
        refine ex_call (by exact hC) ?_
        simp only [go_sem, seval, List.length_map]
        have e3 : ((l.drop i).map HeldD.av).take (l.length - i) = (l.drop i).map HeldD.av := List.take_of_length_le (by rw [List.length_map, List.length_drop]; omega)
        refine ⟨by rw [List.length_take]; omega, ⟨⟨by omega, by omega⟩, by omega, by omega⟩, ?_⟩
        simp only [go_sem, seval, Int.toNat_natCast, t2, e3]
        refine ex_call (by exact hC2) ?_
        simp only [go_sem, seval, List.length_map, List.length_append]
        refine ⟨by rw [List.length_take, List.length_drop]; omega, ?_⟩
        refine finPushT (sh := false) ?_
        show resOf _ _ [.tmp 6, .tmp 7] = _
        simp only [go_sem, seval]
        try rfl
      · have d4 : decide ((i : Int) < (l.length : Int)) = false := decide_eq_false (by omega)
        simp only [go_sem, seval, d4, List.length_map]
        refine ex_draw [] [] (.quiet 0 (.quiet 1 (.quiet 2 (.quiet 4 (.quiet 6 (.one 3 (.one 5 (.one 7 (.one 8 (.one 9 (.quiet 10 (.fin)))))))))))) (by kernel_rfl) ?_
        simp only [go_sem, seval, ex_ord_two, ex_ord_three, List.length_map, Int.toNat_natCast, Nat.sub_zero, t1, t2, TxD.cells, ints, strs]
        refine ⟨by omega, ?_⟩
        refine ex_call (by exact hC1) ?_
        simp only [go_sem, seval, TxD.cells, ints, strs]
        refine ex_call (by exact hC) ?_
        simp only [go_sem, seval, List.length_map]
        have e3 : ((l.drop i).map HeldD.av).take (l.length - i) = (l.drop i).map HeldD.av := List.take_of_length_le (by rw [List.length_map, List.length_drop]; omega)
        refine ⟨by rw [List.length_take]; omega, ⟨⟨by omega, by omega⟩, by omega, by omega⟩, ?_⟩
        simp only [go_sem, seval, Int.toNat_natCast, t2, e3]
        refine ex_call (by exact hC2) ?_
        simp only [go_sem, seval, List.length_map, List.length_append]
        refine ⟨by rw [List.length_take, List.length_drop]; omega, ?_⟩
        refine finPushT (sh := false) ?_
        show resOf _ _ [.tmp 6, .tmp 7] = _
        simp only [go_sem, seval]
        try rfl
end Go.Proofs.Ytpepfhbfooeoeaa.VA
end
section
namespace Go.Proofs.Ytpepfhbfooeoeaa.VA
open Go.RowKit

/-- What a cell may turn to: a value of its kind; a slice: the nil slice. -/
inductive Kin : Value → Value → Prop
  | same (v : Value) : Kin v v
  | int (k : IntKind) (a b : Int) : Kin (.int k a) (.int k b)
  | str (s t : ByteArray) : Kin (.string s) (.string t)
  | bool (a b : Bool) : Kin (.bool a) (.bool b)
  | nil (b : Option Addr) (n c : Nat) : Kin (.slice b n c) (.slice none 0 0)
/-- The cells of the blocks B are as they were, but for their kinds. -/
structure Sp (I : Imm) (B : Nat → Prop) (w : World) : Prop where
  cells : ∀ b o u, B b → I b o = some u → ∃ u', w.cell? ⟨b, o, none⟩ = some u' ∧ w.frozen? ⟨b, o, none⟩ = false ∧ Kin u u'
/-- A value as it stands now: its cells are of the kinds that they had. -/
def KinV (v v' : Value) : Prop := v.cells.size = v'.cells.size ∧ ∀ (j : Nat) u u', v.cells[j]? = some u → v'.cells[j]? = some u' → Kin u u'

theorem cells_eq {M N : Nat → Prop} {I : Imm} {e : AV} {v v' : Value} (h : AR M I e v) (h' : AR N I e v') (hc : v.cells = v'.cells) : v = v' := by
  rcases h.kind with ⟨cs, vs, rfl, rfl, _⟩ | ⟨h1, h2⟩
  · cases h' with
    | agg _ vs' => rw [show vs = vs' from hc]
  · rcases h'.kind with ⟨cs, vs', rfl, rfl, _⟩ | ⟨h1', _⟩
    · cases h; cases h1
    · rw [cells_one h1, cells_one h1'] at hc
      simpa using hc
/-- The least set of blocks that a value leans on. -/
theorem AR.least {I : Imm} {x : AV} {v : Value} (h : AR (fun _ => True) I x v) : Wide x → ∀ N : Nat → Prop, (∀ b, (∀ M, AR M I x v → M b) → (∃ o u, I b o = some u) → N b) → AR N I x v := by
  induction h with
  | bool b => exact fun _ _ _ => .bool b
  | int k n => exact fun _ _ _ => .int k n
  | str s => exact fun _ _ _ => .str s
  | fn f => exact fun hw => by cases hw
  | nilf => exact fun hw => by cases hw
  | agg cs vs hl h1 hc ih =>
    intro hw N hN
    cases hw with
    | agg _ hw =>
      refine .agg cs vs hl h1 fun j c u hj hu => ih j c u hj hu (hw c (List.mem_of_getElem? hj)) N fun b hb => hN b fun M hM => hb M ?_
      cases hM with
      | agg _ _ _ _ hM => exact hM j c u hj hu
  | slnil fr sz base cap => exact fun _ _ _ => .slnil fr sz base cap
  | sl fr sz es b o n cap hn hc vs hv hz hI _ ih =>
    intro hw N hN
    cases hw with
    | sl _ _ _ h0 hw =>
      cases es with
      | nil => subst hn; exact .slnil fr sz _ _
      | cons e0 es =>
        have hcell : ∃ o u, I b o = some u := by
          have hs := hz 0 (by simp)
          exact ⟨_, _, hI 0 0 _ (by simp) (Array.getElem?_eq_getElem (by rw [hs]; exact h0))⟩
        have inv : ∀ M, AR M I (.sl fr sz (e0 :: es)) (.slice (some ⟨b, o, none⟩) n cap) → (fr = true → M b) ∧ ∀ (i : Nat) e, (e0 :: es)[i]? = some e → AR M I e (vs i) := by
          intro M hM
          cases hM with
          | sl _ _ _ _ _ _ _ _ _ vs' hv' hz' hI' hM' =>
            refine ⟨hM', fun i e he => ?_⟩
            have hi := (List.getElem?_eq_some_iff.1 he).1
            have e1 : vs i = vs' i := by
              refine cells_eq (hv i e he) (hv' i e he) (Array.ext (by rw [hz i hi, hz' i hi]) fun j h1 h2 => ?_)
              have q1 := hI i j _ hi (Array.getElem?_eq_getElem h1)
              have q2 := hI' i j _ hi (Array.getElem?_eq_getElem h2)
              rw [q1] at q2
              exact Option.some.inj q2
            rw [e1]; exact hv' i e he
        refine .sl fr sz _ b o n cap hn hc vs (fun i e he => ih i e he (hw e (List.mem_of_getElem? he)) N fun c hb => hN c fun M hM => hb M ((inv M hM).2 i e he)) hz hI fun e => hN b (fun M hM => (inv M hM).1 e) hcell
  | ext => exact fun hw => by cases hw
  | hd => exact fun hw => by cases hw

/-- A row of the value, as it stands now. -/
theorem row_now {I : Imm} {B : Nat → Prop} {sz : Nat} {es : List AV} {u u' : Value} (h : AR B I (.sl true sz es) u) (hk : Kin u u') : ∃ base n cap, u' = .slice base n cap ∧ (n = 0 ∨ (n = es.length ∧ ∃ b o, base = some ⟨b, o, none⟩ ∧ B b ∧ ∃ vs : Nat → Value,
    (∀ (i : Nat) e, es[i]? = some e → AR B I e (vs i)) ∧ (∀ i, i < es.length → (vs i).cells.size = sz) ∧ ∀ (i j : Nat) c, i < es.length → (vs i).cells[j]? = some c → I b (o + i * sz + j) = some c)) := by
  cases h with
  | slnil fr sz base cap =>
    cases hk with
    | same => exact ⟨_, _, _, rfl, .inl rfl⟩
    | nil => exact ⟨_, _, _, rfl, .inl rfl⟩
  | sl fr sz es b o n cap hn hc vs hv hz hI hM =>
    cases hk with
    | same => exact ⟨_, _, _, rfl, .inr ⟨hn, b, o, rfl, hM rfl, vs, hv, hz, hI⟩⟩
    | nil => exact ⟨_, _, _, rfl, .inl rfl⟩

/-- Between two stores. -/
structure SpG (I : Imm) (B : Nat → Prop) (w0 w : World) : Prop where
  fr : Fr w0 w B
  sp : Sp I B w
theorem SpG.grow {I : Imm} {B : Nat → Prop} {w0 w w' : World} (h : SpG I B w0 w) (hw : Fr w w' fun _ => False) : SpG I B w0 w' where
  fr := fr_trans h.fr hw.os hw.tape hw.output hw.size (fun k hk _ => hw.block k (Nat.lt_of_lt_of_le hk h.fr.size) id) hw.new
  sp := ⟨fun b o u hb hu => by
    obtain ⟨u', h1, h2, h3⟩ := h.sp.cells b o u hb hu
    have hlt : b < w.heap.size := World.block_lt_of_cell? w _ h1
    have e := hw.block b hlt id
    exact ⟨u', by rw [World.cell?_of_block e]; exact h1, by rw [World.frozen?_of_block e]; exact h2, h3⟩⟩
theorem SpG.called {I : Imm} {B : Nat → Prop} {w0 w w' : World} (h : SpG I B w0 w) (hw : SpG I B w w') : SpG I B w0 w' where
  fr := fr_trans h.fr hw.fr.os hw.fr.tape hw.fr.output hw.fr.size (fun k hk hn => hw.fr.block k (Nat.lt_of_lt_of_le hk h.fr.size) hn) hw.fr.new
  sp := hw.sp
/-- Cells of a block of B are written over, by values of their kinds. -/
theorem SpG.write {I : Imm} {B : Nat → Prop} {w0 w : World} (h : SpG I B w0 w) {b off : Nat} {vals : List Value} (hb : B b) (hc : ∀ j, j < vals.length → (w.cell? ⟨b, off + j, none⟩).isSome = true)
    (hk : ∀ (j : Nat) u v, I b (off + j) = some u → vals[j]? = some v → Kin u v) : SpG I B w0 (w.setCells b off vals) := by
  have hW := wr_setCells w b off vals hc
  refine ⟨fr_trans h.fr hW.os hW.tape hW.output (Nat.le_of_eq hW.size.symm) (fun k hk hn => hW.block k fun e => by subst e; exact hn hb) fun k o u hu => .inl ⟨hW.dom k o u hu, hW.frz _⟩, ⟨fun b' o u hb' hu => ?_⟩⟩
  obtain ⟨u', h1, h2, h3⟩ := h.sp.cells b' o u hb' hu
  rw [hW.frz]
  by_cases e : b' = b
  · subst e
    by_cases hin : off ≤ o ∧ o < off + vals.length
    · have e1 := hW.cin (o - off) (by omega)
      rw [show off + (o - off) = o by omega] at e1
      have hlt : o - off < vals.length := by omega
      rw [e1, List.getElem?_eq_getElem hlt]
      exact ⟨_, rfl, h2, hk (o - off) u _ (by rw [show off + (o - off) = o by omega]; exact hu) (List.getElem?_eq_getElem hlt)⟩
    · rw [hW.cout o (by omega)]; exact ⟨u', h1, h2, h3⟩
  · rw [hW.cell_ne e]; exact ⟨u', h1, h2, h3⟩
/-! Loads and stores of whole elements, one step each. -/
theorem wpList_load {P : Program} {ops : Array Oper} {rest : List Oper} {o : Oper} {a : Act} {w : World} {Q : Exit → Act → World → Prop} (hgd : o.guard = none) (T : TypeId) (x : Operand) (ho : o.op = .load T x) {p : Addr} (hp : a.eval x = .pointer (some p)) {v : Value}
    (hr : (Go.loadVar T p).run P w = .ok v w) (h : wpList P ops Q rest (a.put o.dst v) w) : wpList P ops Q (o :: rest) a w :=
  wpList_plain hgd fun _ hK => by
    unfold Oper.wp execOp
    simp only [ho, Sem.run_bind, Sem.run_pure, Result.andThen_ok, run_loadAt hp hr]
    exact hK _ _ h
theorem wpList_store {P : Program} {ops : Array Oper} {rest : List Oper} {o : Oper} {a : Act} {w w' : World} {Q : Exit → Act → World → Prop} (hgd : o.guard = none) (T : TypeId) (p x : Operand) (ho : o.op = .store T p x) (hd : o.dst = none) {u v : Value} (hp : a.eval p = u) (hx : a.eval x = v)
    (hr : (Instr.storeAt T u v).run P w = .ok () w') (h : wpList P ops Q rest a w') : wpList P ops Q (o :: rest) a w :=
  wpList_plain hgd fun _ hK => by
    unfold Oper.wp execOp
    simp only [ho, Sem.run_bind, Sem.run_pure, Result.andThen_ok, hp, hx, hr]
    exact hK _ _ (by rw [hd]; exact h)
/-- What a function that writes over its argument must do, at any time, for a Spoil. -/
theorem spoil_of {P : Program} {f : FuncId} {x : AV} (hw : Wide x) (he : ∃ fn c, P.funcs[f]? = some fn ∧ (fn.name == "runtime.NumGoroutine") = false ∧ fn.body = some c)
    (h : ∀ (I : Imm) (B : Nat → Prop) (w : World) (v : Value), AR B I x v → Sp I B w → (∀ b, B b → b < w.heap.size) → Calls P f #[v] w fun e w' => e = .returned (.tuple #[]) ∧ SpG I B w w') : Spoil P f x where
  wide := hw
  enters := he
  calls I w v hI hx hz := by
    have hB := hx.least hw (fun b => (∀ M, AR M I x v → M b) ∧ ∃ o u, I b o = some u) fun b h1 h2 => ⟨h1, h2⟩
    refine (h I _ w v hB ⟨fun b o u hb hu => ⟨u, hI b o u hu, hz b hb.1 o u hu, .same u⟩⟩ fun b hb => ?_).mono fun e w' hq => ⟨hq.1, hq.2.fr⟩
    obtain ⟨o, u, hu⟩ := hb.2
    exact World.block_lt_of_cell? w _ (hI b o u hu)
end Go.Proofs.Ytpepfhbfooeoeaa.VA
end
section
namespace Go.Proofs.Ytpepfhbfooeoeaa.VA
open Go.RowKit

/-- Row by row: what is told of a slice of cells of one kind, in blocks that may be written. -/
def RowAt (I : Imm) (B : Nat → Prop) (ok : Value → Prop) (base : Option Addr) (n : Nat) : Prop :=
  n = 0 ∨ ∃ b o, base = some ⟨b, o, none⟩ ∧ B b ∧ ∀ i, i < n → ∃ u, I b (o + i) = some u ∧ ok u
set_option maxHeartbeats 8000000 in
set_option maxRecDepth 1000000 in
theorem walk_Tx (I : Imm) (B : Nat → Prop) (w : World) (c0 c1 c2 c3 c4 c5 c6 c7 c8 c9 c10 c11 c12 c13 c14 c15 c16 c17 c18 : Value) (hb : Option Addr) (hn hc : Nat) (bb : Option Addr) (bn bc : Nat)
    (hm : hn ≤ 9223372036854775807) (bm : bn ≤ 9223372036854775807)
    (h1 : RowAt I B (fun u => ∃ n, u = .int .u64 n) hb hn) (h2 : RowAt I B (fun u => ∃ s, u = .string s) bb bn) (hs : Sp I B w) (hB : ∀ b, B b → b < w.heap.size) :
    Calls Try.prog 89 #[.agg #[c0, c1, c2, c3, c4, c5, c6, c7, c8, c9, c10, c11, c12, c13, c14, c15, c16, c17, c18, .slice hb hn hc, .slice bb bn bc]] w fun e w' => e = .returned (.tuple #[]) ∧ SpG I B w w' := by
  obtain ⟨W, hW⟩ : ∃ W : World, W = w.alloc (.cells #[c0, c1, c2, c3, c4, c5, c6, c7, c8, c9, c10, c11, c12, c13, c14, c15, c16, c17, c18, .slice hb hn hc, .slice bb bn bc] 29) := ⟨_, rfl⟩
  have hg0 : SpG I B w W := by
    rw [hW]
    exact SpG.grow ⟨fr_refl _ _, hs⟩ (fr_alloc w _ fun j u _ => World.frozen?_alloc_new w _ _ j)
  have h19 : W.cell? ⟨w.heap.size, 19, none⟩ = some (.slice hb hn hc) := by rw [hW, World.cell?_alloc_new]; rfl
  have h20 : W.cell? ⟨w.heap.size, 20, none⟩ = some (.slice bb bn bc) := by rw [hW, World.cell?_alloc_new]; rfl
  go_enter Try.func89, Try.ntmps89
  go_wp2
  rw [← hW]
  have hBk : ∀ b, B b → b ≠ w.heap.size := fun b hb e => by
    have := hB b hb
    omega
  clear hW hs hB
  obtain ⟨k0, hk0⟩ : ∃ k0, k0 = w.heap.size := ⟨_, rfl⟩
  rw [← hk0] at h19 h20 hBk ⊢
  clear hk0
  refine wp_loop_ghost (fun n a w' => ∃ (i : Nat) (x4 x5 x6 x7 x8 x9 x10 x11 x12 x13 x14 : Value), (i ≤ hn ∧ n = hn - i) ∧ a = { tmps := #[.agg #[c0, c1, c2, c3, c4, c5, c6, c7, c8, c9, c10, c11, c12, c13, c14, c15, c16, c17, c18, .slice hb hn hc, .slice bb bn bc], .pointer (some ⟨k0, 0, none⟩), .int .i64 i, undef, x4, x5, x6, x7, x8, x9, x10, x11, x12, x13, x14, undef, undef, undef, undef, undef, undef, undef, undef, undef, undef, undef], defers := [] } ∧
    SpG I B w w' ∧ w'.cell? ⟨k0, 19, none⟩ = some (.slice hb hn hc) ∧ w'.cell? ⟨k0, 20, none⟩ = some (.slice bb bn bc)) hn ⟨0, _, _, _, _, _, _, _, _, _, _, _, ⟨Nat.zero_le _, rfl⟩, rfl, hg0, h19, h20⟩ ?_
  clear hg0 h19 h20
  rintro n a w' ⟨i, x4, x5, x6, x7, x8, x9, x10, x11, x12, x13, x14, ⟨hi, hni⟩, rfl, hg, h19, h20⟩
  have A : Aside (n = hn - i) := hni
  clear hni
  rcases Nat.lt_or_ge i hn with hlt | hge
  · rcases h1 with h1 | ⟨b, o, rfl, hBb, hrow⟩
    · omega
    obtain ⟨u, hu, nn, rfl⟩ := hrow i hlt
    obtain ⟨u', q1, q2, q3⟩ := hg.sp.cells b (o + i) _ hBb hu
    have Q : Aside (I b (o + i) = some (.int .u64 nn) ∧ SpG I B w w' ∧ B b) := ⟨hu, hg, hBb⟩
    clear hu hg hrow hBb
    go_wp2
    obtain ⟨hu, hg, hBb⟩ := Q.out
    have hni := A.out
    have hne : k0 ≠ b := fun e => hBk b hBb e.symm
    refine ⟨hn - (i + 1), by omega, i + 1, _, _, _, _, _, _, _, _, _, _, _, ⟨by omega, rfl⟩, rfl, ?_, ?_, ?_⟩
    · refine hg.write (off := o + i) (vals := [.int .u64 99]) hBb (fun j hj => ?_) (fun j u v hu' hv => ?_)
      · obtain rfl : j = 0 := by simpa using hj
        rw [Nat.add_zero, q1]; rfl
      · obtain ⟨rfl, rfl⟩ := lget_one hv
        rw [Nat.add_zero, hu] at hu'
        cases hu'
        exact .int _ _ _
    · exact (World.cell?_setCells_out b [_] (o + i) w' ⟨k0, 19, none⟩ (fun e _ => absurd e hne)).trans h19
    · exact (World.cell?_setCells_out b [_] (o + i) w' ⟨k0, 20, none⟩ (fun e _ => absurd e hne)).trans h20
  · go_wp2
    clear A hge hi h19
    refine wp_loop_ghost (fun n a w' => ∃ (i : Nat) (x2 x4 x5 x6 x7 x8 x9 x10 x11 x12 x13 x14 x15 x16 x17 x18 x19 x20 x21 x22 x23 x24 x25 : Value), (i ≤ bn ∧ n = bn - i) ∧ a = { tmps := #[.agg #[c0, c1, c2, c3, c4, c5, c6, c7, c8, c9, c10, c11, c12, c13, c14, c15, c16, c17, c18, .slice hb hn hc, .slice bb bn bc], .pointer (some ⟨k0, 0, none⟩), x2, .int .i64 i, x4, x5, x6, x7, x8, x9, x10, x11, x12, x13, x14, x15, x16, x17, x18, x19, x20, x21, x22, x23, x24, x25], defers := [] } ∧
      SpG I B w w' ∧ w'.cell? ⟨k0, 20, none⟩ = some (.slice bb bn bc)) bn ⟨0, _, _, _, _, _, _, _, _, _, _, _, _, _, _, _, _, _, _, _, _, _, _, _, ⟨Nat.zero_le _, rfl⟩, rfl, hg, h20⟩ ?_
    clear hg h20
    rintro n a w' ⟨i, x2, x4, x5, x6, x7, x8, x9, x10, x11, x12, x13, x14, x15, x16, x17, x18, x19, x20, x21, x22, x23, x24, x25, ⟨hi, hni⟩, rfl, hg, h20⟩
    have A : Aside (n = bn - i) := hni
    clear hni
    rcases Nat.lt_or_ge i bn with hlt | hge
    · rcases h2 with h2 | ⟨b, o, rfl, hBb, hrow⟩
      · omega
      obtain ⟨u, hu, nn, rfl⟩ := hrow i hlt
      obtain ⟨u', q1, q2, q3⟩ := hg.sp.cells b (o + i) _ hBb hu
      have Q : Aside (I b (o + i) = some (.string nn) ∧ SpG I B w w' ∧ B b) := ⟨hu, hg, hBb⟩
      clear hu hg hrow hBb
      go_wp2
      obtain ⟨hu, hg, hBb⟩ := Q.out
      have hni := A.out
      have hne : k0 ≠ b := fun e => hBk b hBb e.symm
      refine ⟨bn - (i + 1), by omega, i + 1, _, _, _, _, _, _, _, _, _, _, _, _, _, _, _, _, _, _, _, _, _, _, _, ⟨by omega, rfl⟩, rfl, ?_, ?_⟩
      · refine hg.write (off := o + i) (vals := [.string ⟨#[63]⟩]) hBb (fun j hj => ?_) (fun j u v hu' hv => ?_)
        · obtain rfl : j = 0 := by simpa using hj
          rw [Nat.add_zero, q1]; rfl
        · obtain ⟨rfl, rfl⟩ := lget_one hv
          rw [Nat.add_zero, hu] at hu'
          cases hu'
          exact .str _ _
      · exact (World.cell?_setCells_out b [_] (o + i) w' ⟨k0, 20, none⟩ (fun e _ => absurd e hne)).trans h20
    · go_wp2
      go_end0
      exact ⟨rfl, hg⟩
theorem arr21 (a : Array Value) (h : a.size = 21) : ∃ c0 c1 c2 c3 c4 c5 c6 c7 c8 c9 c10 c11 c12 c13 c14 c15 c16 c17 c18 c19 c20, a = #[c0, c1, c2, c3, c4, c5, c6, c7, c8, c9, c10, c11, c12, c13, c14, c15, c16, c17, c18, c19, c20] := by
  rcases a with ⟨l⟩
  match l, h with
  | [c0, c1, c2, c3, c4, c5, c6, c7, c8, c9, c10, c11, c12, c13, c14, c15, c16, c17, c18, c19, c20], _ => exact ⟨c0, c1, c2, c3, c4, c5, c6, c7, c8, c9, c10, c11, c12, c13, c14, c15, c16, c17, c18, c19, c20, rfl⟩
theorem KinV.agg {vs : Array Value} {v' : Value} (h : KinV (.agg vs) v') (hs : 2 ≤ vs.size) : ∃ vs', v' = .agg vs' ∧ vs'.size = vs.size ∧ ∀ (j : Nat) u u', vs[j]? = some u → vs'[j]? = some u' → Kin u u' := by
  obtain ⟨h1, h2⟩ := h
  have h1 : vs.size = v'.cells.size := h1
  cases v' with
  | agg vs' => exact ⟨vs', rfl, h1.symm, h2⟩
  | tuple vs' => simp [Value.cells] at h1; omega
  | _ => simp [Value.cells] at h1; omega
theorem row_at {I : Imm} {B : Nat → Prop} {α : Type} {f : α → AV} {l : List α} {ok : Value → Prop} {u u' : Value} (h : AR B I (.sl true 1 (l.map f)) u) (hk : Kin u u') (hf : ∀ x v, AR B I (f x) v → v.oneCell' = true ∧ ok v) :
    ∃ base n cap, u' = .slice base n cap ∧ n ≤ l.length ∧ RowAt I B ok base n := by
  obtain ⟨base, n, cap, rfl, hr⟩ := row_now h hk
  refine ⟨base, n, cap, rfl, ?_⟩
  rcases hr with rfl | ⟨hn, b, o, rfl, hb, vs, hv, hz, hI⟩
  · exact ⟨Nat.zero_le _, .inl rfl⟩
  · rw [List.length_map] at hn
    refine ⟨by omega, .inr ⟨b, o, rfl, hb, fun i hi => ?_⟩⟩
    have hi' : i < (l.map f).length := by rw [List.length_map]; omega
    obtain ⟨x, ex⟩ : ∃ x, l[i]? = some x := ⟨_, List.getElem?_eq_getElem (by omega)⟩
    obtain ⟨q1, q2⟩ := hf x _ (hv i (f x) (by rw [List.getElem?_map, ex]; rfl))
    refine ⟨vs i, ?_, q2⟩
    have := hI i 0 (vs i) hi' (by rw [cells_one q1]; rfl)
    rw [Nat.mul_one, Nat.add_zero] at this
    exact this
/-- tarnlaw0.Tx, at a transaction as it stands now. -/
theorem calls_Tx {I : Imm} {B : Nat → Prop} {w : World} {cs : List AV} {hs : List Int} {bs : List (List UInt8)} {v v' : Value} (hx : AR B I (.agg cs) v) (hlen : cs.length = 21) (h19 : cs[19]? = some (.sl true 1 (hs.map (AV.int .u64)))) (h20 : cs[20]? = some (.sl true 1 (bs.map AV.str)))
    (hm : hs.length ≤ 9223372036854775807) (bm : bs.length ≤ 9223372036854775807) (hk : KinV v v') (hsp : Sp I B w) (hB : ∀ b, B b → b < w.heap.size) :
    Calls Try.prog 89 #[v'] w fun e w' => e = .returned (.tuple #[]) ∧ SpG I B w w' := by
  cases hx with
  | agg _ vs hl h1 hcs =>
    obtain ⟨vs', rfl, hs', hkk⟩ := hk.agg (by omega)
    obtain ⟨c0, c1, c2, c3, c4, c5, c6, c7, c8, c9, c10, c11, c12, c13, c14, c15, c16, c17, c18, c19, c20, rfl⟩ := arr21 vs' (by omega)
    have e19 := hcs 19 _ _ h19 (Array.getElem?_eq_getElem (by omega))
    have e20 := hcs 20 _ _ h20 (Array.getElem?_eq_getElem (by omega))
    obtain ⟨hb, hn, hc, rfl, n1, r1⟩ := row_at (ok := fun u => ∃ n, u = .int .u64 n) e19 (hkk 19 _ _ (Array.getElem?_eq_getElem (by omega)) rfl) (fun x v h => by cases h; exact ⟨rfl, _, rfl⟩)
    obtain ⟨bb, bn, bc, rfl, n2, r2⟩ := row_at (ok := fun u => ∃ s, u = .string s) e20 (hkk 20 _ _ (Array.getElem?_eq_getElem (by omega)) rfl) (fun x v h => by cases h; exact ⟨rfl, _, rfl⟩)
    exact walk_Tx I B w _ _ _ _ _ _ _ _ _ _ _ _ _ _ _ _ _ _ _ hb hn hc bb bn bc (by omega) (by omega) r1 r2 hsp hB
end Go.Proofs.Ytpepfhbfooeoeaa.VA
end
section
namespace Go.Proofs.Ytpepfhbfooeoeaa.VA
open Go.RowKit

theorem dull_wide (t : TxD) : Wide t.dull := .agg _ fun c hc => by
  simp only [List.mem_cons, List.not_mem_nil, or_false] at hc
  rcases hc with rfl | rfl | rfl | rfl | rfl | rfl | rfl | rfl | rfl | rfl | rfl | rfl | rfl | rfl | rfl | rfl | rfl | rfl | rfl | rfl | rfl <;> first | exact .int _ _ | exact .sl _ _ _ (by decide) (fun c hc => by obtain ⟨x, _, rfl⟩ := List.mem_map.1 hc; first | exact .int _ _ | exact .str _)
theorem kinV_refl (v : Value) : KinV v v := ⟨rfl, fun j u u' h1 h2 => by rw [h1] at h2; cases h2; exact .same _⟩
/-- What an element's cells may turn to. -/
inductive KZ : AV → Value → Prop
  | int (k : IntKind) (n m : Int) : KZ (.int k n) (.int k m)
  | str (s : List UInt8) (t : ByteArray) : KZ (.str s) (.string t)
  | bool (a b : Bool) : KZ (.bool a) (.bool b)
  | sl (fr : Bool) (sz : Nat) (es : List AV) : KZ (.sl fr sz es) (.slice none 0 0)
theorem KZ.kin {M : Nat → Prop} {I : Imm} {c : AV} {u z : Value} (h : KZ c z) (ha : AR M I c u) : Kin u z := by
  cases h with
  | int k n m => cases ha; exact .int _ _ _
  | str s t => cases ha; exact .str _ _
  | bool a b => cases ha; exact .bool _ _
  | sl fr sz es => cases ha <;> exact .nil _ _ _
theorem kz_nil : ∀ (j : Nat) c z, ([] : List AV)[j]? = some c → ([] : List Value)[j]? = some z → KZ c z := fun j c z h => by cases h
theorem kz_cons {x : AV} {z : Value} {xs : List AV} {zs : List Value} (h : KZ x z) (hr : ∀ (j : Nat) c z, xs[j]? = some c → zs[j]? = some z → KZ c z) : ∀ (j : Nat) c u, (x :: xs)[j]? = some c → (z :: zs)[j]? = some u → KZ c u := fun j c u hc hu => by
  cases j with
  | zero =>
    simp only [List.getElem?_cons_zero, Option.some.injEq] at hc hu
    subst hc hu; exact h
  | succ j => exact hr j c u (by simpa using hc) (by simpa using hu)
/-- The cells of an element, as they stand now. -/
theorem elem_now {I : Imm} {B : Nat → Prop} {w0 w : World} (h : SpG I B w0 w) {b off sz : Nat} {v : Value} (hb : B b) (hs : v.cells.size = sz) (hI : ∀ (j : Nat) c, v.cells[j]? = some c → I b (off + j) = some c) :
    ∃ us : List Value, us.length = sz ∧ (∀ j, j < sz → w.cell? ⟨b, off + j, none⟩ = us[j]? ∧ w.frozen? ⟨b, off + j, none⟩ = false) ∧ ∀ (j : Nat) u u', v.cells[j]? = some u → us[j]? = some u' → Kin u u' := by
  refine ⟨(List.range sz).map fun j => (w.cell? ⟨b, off + j, none⟩).getD undef, by simp, fun j hj => ?_, fun j u u' hu hu' => ?_⟩
  · obtain ⟨u', h1, h2, _⟩ := h.sp.cells b (off + j) _ hb (hI j _ (Array.getElem?_eq_getElem (by omega)))
    refine ⟨?_, h2⟩
    rw [List.getElem?_map, List.getElem?_range hj, h1]
    simp [h1]
  · have hj : j < sz := by rw [← hs]; exact (Array.getElem?_eq_some_iff.1 hu).1
    obtain ⟨u2, h1, _, h3⟩ := h.sp.cells b (off + j) u hb (hI j u hu)
    rw [List.getElem?_map, List.getElem?_range hj] at hu'
    simp only [Option.map_some, Option.some.injEq, h1, Option.getD_some] at hu'
    subst hu'; exact h3
/-- An element is written over. -/
theorem elem_write {I : Imm} {B : Nat → Prop} {w0 w : World} (h : SpG I B w0 w) {b off sz : Nat} {e : AV} {v z : Value} (hb : B b) (hv : AR B I e v) (hs : v.cells.size = sz) (hI : ∀ (j : Nat) c, v.cells[j]? = some c → I b (off + j) = some c)
    (hz : z.cells.size = sz) (hk : ∀ (j : Nat) c u, e.flat[j]? = some c → z.cells.toList[j]? = some u → KZ c u) : SpG I B w0 (w.setCells b off z.cells.toList) := by
  refine h.write hb (fun j hj => ?_) fun j u u' hu hu' => ?_
  · have hj : j < v.cells.size := by rw [hs, ← hz]; simpa using hj
    obtain ⟨u', h1, _, _⟩ := h.sp.cells b (off + j) _ hb (hI j _ (Array.getElem?_eq_getElem hj))
    rw [h1]; rfl
  · have hj : j < v.cells.size := by
      have := (List.getElem?_eq_some_iff.1 hu').1
      rw [hs, ← hz]; simpa using this
    have h1 := hI j _ (Array.getElem?_eq_getElem hj)
    rw [hu] at h1
    cases h1
    have hf : j < e.flat.length := by rw [hv.flen]; exact hj
    exact (hk j _ u' (List.getElem?_eq_getElem hf) hu').kin (hv.fcell j _ _ (List.getElem?_eq_getElem hf) (Array.getElem?_eq_getElem hj))

def zeroT : Value := .agg #[.int .i64 (-9), .int .i64 0, .int .u64 0, .int .u64 0, .int .u64 0, .int .u64 0, .int .u64 0, .int .u64 0, .int .u64 0, .int .u64 0, .int .u64 0, .int .u64 0, .int .u64 0, .int .u64 0, .int .u64 0, .int .u64 0, .int .u64 0, .int .u64 0, .int .i64 0, .slice none 0 0, .slice none 0 0]
theorem kz_tx (t : TxD) : ∀ (j : Nat) c u, t.dull.flat[j]? = some c → zeroT.cells.toList[j]? = some u → KZ c u := by
  refine kz_cons (.int _ _ _) (kz_cons (.int _ _ _) ?_)
  repeat' (first | exact kz_nil | exact KZ.int _ _ _ | exact KZ.sl _ _ _ | refine kz_cons ?_ ?_)
set_option maxHeartbeats 8000000 in
set_option maxRecDepth 1000000 in
theorem walk_Txs (I : Imm) (B : Nat → Prop) (w : World) (l : List TxD) (hok : ∀ t ∈ l, t.ok) (hl : l.length ≤ 4611686018427387904) (v : Value) (hx : AR B I (.sl true 21 (l.map TxD.dull)) v) (hs : Sp I B w) (hB : ∀ b, B b → b < w.heap.size) :
    Calls Try.prog 36 #[v] w fun e w' => e = .returned (.tuple #[]) ∧ SpG I B w w' := by
  obtain ⟨base, n, cap, rfl, hr⟩ := row_now hx (.same v)
  have hn : n ≤ 4611686018427387904 := by
    rcases hr with rfl | ⟨rfl, _⟩
    · omega
    · rw [List.length_map]; exact hl
  have hg0 : SpG I B w w := ⟨fr_refl _ _, hs⟩
  clear hx
  go_enter Try.func36, Try.ntmps36
  go_wp2
  refine wp_loop_ghost (fun m a w' => ∃ (i : Nat) (x3 x4 x5 x6 x7 x8 x9 x10 x11 x12 x13 x14 x15 x16 x17 : Value), (i ≤ n ∧ m = n - i) ∧ a = { tmps := #[.slice base n cap, undef, .int .i64 i, x3, x4, x5, x6, x7, x8, x9, x10, x11, x12, x13, x14, x15, x16, x17], defers := [] } ∧ SpG I B w w') n
    ⟨0, _, _, _, _, _, _, _, _, _, _, _, _, _, _, _, ⟨Nat.zero_le _, rfl⟩, rfl, hg0⟩ ?_
  clear hg0 hs
  rintro m a w' ⟨i, x3, x4, x5, x6, x7, x8, x9, x10, x11, x12, x13, x14, x15, x16, x17, ⟨hi, hmi⟩, rfl, hg⟩
  have A : Aside (m = n - i) := hmi
  clear hmi
  rcases Nat.lt_or_ge i n with hlt | hge
  · rcases hr with rfl | ⟨hnl, b, o, rfl, hBb, vs, hv, hz, hI⟩
    · omega
    rw [List.length_map] at hnl
    obtain ⟨t, et⟩ : ∃ t, l[i]? = some t := ⟨_, List.getElem?_eq_getElem (by omega)⟩
    have hto := hok t (List.mem_of_getElem? et)
    have hvi : AR B I t.dull (vs i) := hv i _ (by rw [List.getElem?_map, et]; rfl)
    have hzi := hz i (by rw [List.length_map]; omega)
    have hIi : ∀ (j : Nat) c, (vs i).cells[j]? = some c → I b (o + i * 21 + j) = some c := fun j c hj => hI i j c (by rw [List.length_map]; omega) hj
    obtain ⟨us, u1, u2, u3⟩ := elem_now hg hBb hzi hIi
    have hfit := (cf_ok 0 [] (fun _ => [])).fit 29 (by rfl)
    have hload : (Go.loadVar 29 ⟨b, o + i * 21, none⟩).run Try.prog w' = .ok (.agg us.toArray) w' := loadVar_agg (n := 21) (fit_isAgg hfit w') (fit_sizeOf hfit w') us u1 fun j u hj => by
      rw [Addr.add_lit, (u2 j (by rw [← u1]; exact (List.getElem?_eq_some_iff.1 hj).1)).1]; exact hj
    have h1 := hto.hashes
    have h2 := hto.blobs
    unfold reachBytes at h1 h2
    have hkv : KinV (vs i) (.agg us.toArray) := ⟨by rw [hzi]; show 21 = us.toArray.size; simp [u1], fun j u u' hu hu' => u3 j u u' hu (by simpa [Value.cells] using hu')⟩
    have hcall := calls_Tx (w := w') (hs := t.hashes) (bs := t.blobs) hvi rfl rfl rfl (by omega) (by omega) hkv hg.sp fun b hb => Nat.lt_of_lt_of_le (hB b hb) hg.fr.size
    have hst : ∀ w2, SpG I B w' w2 → (Instr.storeAt 29 (.pointer (some ⟨b, o + i * 21, none⟩)) zeroT).run Try.prog w2 = .ok () (w2.setCells b (o + i * 21) zeroT.cells.toList) := fun w2 hg2 =>
      (run_storeAt (n := 21) rfl (fit_sizeOf hfit w2) rfl (fun j hj => by
        obtain ⟨u', q1, q2, _⟩ := hg2.sp.cells b (o + i * 21 + j) _ hBb (hIi j _ (Array.getElem?_eq_getElem (by rw [hzi]; exact hj)))
        exact ⟨u', q1, q2⟩) (by decide)).1
    have Q : Aside ((SpG I B w w' ∧ B b) ∧ AR B I t.dull (vs i) ∧ (vs i).cells.size = 21 ∧ (∀ (j : Nat) c, (vs i).cells[j]? = some c → I b (o + i * 21 + j) = some c)) := ⟨⟨hg, hBb⟩, hvi, hzi, hIi⟩
    clear hg hBb hvi hzi hIi hv hz hI u1 u2 u3 hkv hnl et hto h1 h2
    go_wp2_with (first | (refine wpList_load rfl 29 _ (by rfl) (by rfl) (by exact hload) ?_) | (go_at_call 89; refine hcall.mono ?_; rintro e w2 ⟨rfl, hg2⟩) | (refine wpList_store rfl 29 _ _ (by rfl) (by rfl) (by rfl) (by rfl) (by exact hst _ (by assumption)) ?_; generalize hW2 : World.setCells _ _ _ _ = W2))
    obtain ⟨⟨hg, hBb⟩, hvi, hzi, hIi⟩ := Q.out
    have hmi := A.out
    refine ⟨n - (i + 1), by omega, i + 1, _, _, _, _, _, _, _, _, _, _, _, _, _, _, _, ⟨by omega, rfl⟩, rfl, ?_⟩
    rw [← hW2]
    exact elem_write (z := zeroT) (hg.called (by assumption)) hBb hvi hzi hIi rfl (kz_tx t)
  · go_wp2
    go_end0
    exact ⟨rfl, hg⟩
theorem dulls_wide (l : List TxD) : Wide (.sl true 21 (l.map TxD.dull)) := .sl _ _ _ (by decide) fun c hc => by
  obtain ⟨t, _, rfl⟩ := List.mem_map.1 hc
  exact dull_wide t
theorem spoil_Txs (l : List TxD) (hok : ∀ t ∈ l, t.ok) (hl : l.length ≤ 4611686018427387904) : Spoil Try.prog 36 (.sl true 21 (l.map TxD.dull)) :=
  spoil_of (dulls_wide l) ⟨_, _, Try.func36, by kernel_rfl, rfl⟩ fun I B w v hx hs hB => walk_Txs I B w l hok hl v hx hs hB
end Go.Proofs.Ytpepfhbfooeoeaa.VA
end
section
namespace Go.Proofs.Ytpepfhbfooeoeaa.VA
open Go.RowKit

theorem hdull_eq (h : HeldD) : h.dull = .agg (h.t.cellsT ++ [.int .i64 h.n]) := rfl
theorem cells_wide (t : TxD) : ∀ c ∈ t.cellsT, Wide c := by
  have := dull_wide t
  rw [dull_eq] at this
  cases this with
  | agg _ h => exact h
theorem hdull_wide (h : HeldD) : Wide h.dull := by
  rw [hdull_eq]
  refine .agg _ fun c hc => ?_
  rcases List.mem_append.1 hc with h1 | h1
  · exact cells_wide h.t c h1
  · rw [List.mem_singleton.1 h1]; exact .int _ _
/-- The transaction's part of one held. -/
theorem ar_front {M : Nat → Prop} {I : Imm} {cs : List AV} {x : AV} {v : Value} (h : AR M I (.agg (cs ++ [x])) v) : ∃ u, AR M I (.agg cs) u ∧ u.cells.size = cs.length ∧ ∀ (j : Nat) c, u.cells[j]? = some c → v.cells[j]? = some c := by
  cases h with
  | agg _ vs hl h1 h2 =>
    have hl2 : vs.size = cs.length + 1 := by rw [← hl]; simp
    have hget : ∀ (j : Nat) c, (vs.toList.take cs.length).toArray[j]? = some c → vs[j]? = some c := by
      intro j c hj
      rw [List.getElem?_toArray, List.getElem?_take] at hj
      split at hj
      · simpa using hj
      · cases hj
    refine ⟨.agg (vs.toList.take cs.length).toArray, .agg _ _ (by simp; omega) (fun j u hu => h1 j u (hget j u hu)) (fun j c u hc hu => h2 j c u ?_ (hget j u hu)), by show (vs.toList.take cs.length).toArray.size = _; simp; omega, hget⟩
    rw [List.getElem?_append_left (List.getElem?_eq_some_iff.1 hc).1]; exact hc
def zeroH9 : Value := .agg #[.int .i64 0, .int .i64 0, .int .u64 0, .int .u64 0, .int .u64 0, .int .u64 0, .int .u64 0, .int .u64 0, .int .u64 0, .int .u64 0, .int .u64 0, .int .u64 0, .int .u64 0, .int .u64 0, .int .u64 0, .int .u64 0, .int .u64 0, .int .u64 0, .int .i64 0, .slice none 0 0, .slice none 0 0, .int .i64 (-9)]
theorem kz_held (h : HeldD) : ∀ (j : Nat) c u, h.dull.flat[j]? = some c → zeroH9.cells.toList[j]? = some u → KZ c u := by
  refine kz_cons (.int _ _ _) (kz_cons (.int _ _ _) ?_)
  repeat' (first | exact kz_nil | exact KZ.int _ _ _ | exact KZ.sl _ _ _ | refine kz_cons ?_ ?_)
set_option maxHeartbeats 8000000 in
set_option maxRecDepth 1000000 in
theorem walk_Limbo (I : Imm) (B : Nat → Prop) (w : World) (l : List HeldD) (hok : ∀ t ∈ l, t.ok) (hl : l.length ≤ 4611686018427387904) (v : Value) (hx : AR B I (.sl true 22 (l.map HeldD.dull)) v) (hs : Sp I B w) (hB : ∀ b, B b → b < w.heap.size) :
    Calls Try.prog 55 #[v] w fun e w' => e = .returned (.tuple #[]) ∧ SpG I B w w' := by
  obtain ⟨base, n, cap, rfl, hr⟩ := row_now hx (.same v)
  have hn : n ≤ 4611686018427387904 := by
    rcases hr with rfl | ⟨rfl, _⟩
    · omega
    · rw [List.length_map]; exact hl
  have hg0 : SpG I B w w := ⟨fr_refl _ _, hs⟩
  clear hx
  go_enter Try.func55, Try.ntmps55
  go_wp2
  refine wp_loop_ghost (fun m a w' => ∃ (i : Nat) (x3 x4 x5 x6 x7 x8 x9 x10 x11 x12 x13 x14 x15 x16 x17 x18 : Value), (i ≤ n ∧ m = n - i) ∧ a = { tmps := #[.slice base n cap, undef, .int .i64 i, x3, x4, x5, x6, x7, x8, x9, x10, x11, x12, x13, x14, x15, x16, x17, x18], defers := [] } ∧ SpG I B w w') n
    ⟨0, _, _, _, _, _, _, _, _, _, _, _, _, _, _, _, _, ⟨Nat.zero_le _, rfl⟩, rfl, hg0⟩ ?_
  clear hg0 hs
  rintro m a w' ⟨i, x3, x4, x5, x6, x7, x8, x9, x10, x11, x12, x13, x14, x15, x16, x17, x18, ⟨hi, hmi⟩, rfl, hg⟩
  have A : Aside (m = n - i) := hmi
  clear hmi
  rcases Nat.lt_or_ge i n with hlt | hge
  · rcases hr with rfl | ⟨hnl, b, o, rfl, hBb, vs, hv, hz, hI⟩
    · omega
    rw [List.length_map] at hnl
    obtain ⟨t, et⟩ : ∃ t, l[i]? = some t := ⟨_, List.getElem?_eq_getElem (by omega)⟩
    have hto := (hok t (List.mem_of_getElem? et)).t
    have hvi : AR B I t.dull (vs i) := hv i _ (by rw [List.getElem?_map, et]; rfl)
    have hzi := hz i (by rw [List.length_map]; omega)
    have hIi : ∀ (j : Nat) c, (vs i).cells[j]? = some c → I b (o + i * 22 + j) = some c := fun j c hj => hI i j c (by rw [List.length_map]; omega) hj
    obtain ⟨ut, hut, hus, huc⟩ := ar_front (hdull_eq t ▸ hvi)
    have hus : ut.cells.size = 21 := hus
    obtain ⟨us, u1, u2, u3⟩ := elem_now hg hBb hus (fun j c hj => hIi j c (huc j c hj))
    have hfit := (cf_ok 0 [] (fun _ => [])).fit 29 (by rfl)
    have hfitH := (cf_ok 0 [] (fun _ => [])).fit 90 (by rfl)
    have hload : (Go.loadVar 29 ⟨b, o + i * 22, none⟩).run Try.prog w' = .ok (.agg us.toArray) w' := loadVar_agg (n := 21) (fit_isAgg hfit w') (fit_sizeOf hfit w') us u1 fun j u hj => by
      rw [Addr.add_lit, (u2 j (by rw [← u1]; exact (List.getElem?_eq_some_iff.1 hj).1)).1]; exact hj
    have h1 := hto.hashes
    have h2 := hto.blobs
    unfold reachBytes at h1 h2
    have hkv : KinV ut (.agg us.toArray) := ⟨by rw [hus]; show 21 = us.toArray.size; simp [u1], fun j u u' hu hu' => u3 j u u' hu (by simpa [Value.cells] using hu')⟩
    have hcall := calls_Tx (w := w') (hs := t.t.hashes) (bs := t.t.blobs) hut rfl rfl rfl (by omega) (by omega) hkv hg.sp fun b hb => Nat.lt_of_lt_of_le (hB b hb) hg.fr.size
    have hst : ∀ w2, SpG I B w' w2 → (Instr.storeAt 90 (.pointer (some ⟨b, o + i * 22, none⟩)) zeroH9).run Try.prog w2 = .ok () (w2.setCells b (o + i * 22) zeroH9.cells.toList) := fun w2 hg2 =>
      (run_storeAt (n := 22) rfl (fit_sizeOf hfitH w2) rfl (fun j hj => by
        obtain ⟨u', q1, q2, _⟩ := hg2.sp.cells b (o + i * 22 + j) _ hBb (hIi j _ (Array.getElem?_eq_getElem (by rw [hzi]; exact hj)))
        exact ⟨u', q1, q2⟩) (by decide)).1
    have Q : Aside ((SpG I B w w' ∧ B b) ∧ AR B I t.dull (vs i) ∧ (vs i).cells.size = 22 ∧ (∀ (j : Nat) c, (vs i).cells[j]? = some c → I b (o + i * 22 + j) = some c)) := ⟨⟨hg, hBb⟩, hvi, hzi, hIi⟩
    clear hg hBb hvi hzi hIi hv hz hI u1 u2 u3 hkv hnl et hto h1 h2 hut hus huc
    go_wp2_with (first | (refine wpList_load rfl 29 _ (by rfl) (by rfl) (by exact hload) ?_) | (go_at_call 89; refine hcall.mono ?_; rintro e w2 ⟨rfl, hg2⟩) | (refine wpList_store rfl 90 _ _ (by rfl) (by rfl) (by rfl) (by rfl) (by exact hst _ (by assumption)) ?_; generalize hW2 : World.setCells _ _ _ _ = W2))
    obtain ⟨⟨hg, hBb⟩, hvi, hzi, hIi⟩ := Q.out
    have hmi := A.out
    refine ⟨n - (i + 1), by omega, i + 1, _, _, _, _, _, _, _, _, _, _, _, _, _, _, _, _, ⟨by omega, rfl⟩, rfl, ?_⟩
    rw [← hW2]
    exact elem_write (z := zeroH9) (hg.called (by assumption)) hBb hvi hzi hIi rfl (kz_held t)
  · go_wp2
    go_end0
    exact ⟨rfl, hg⟩
theorem hdulls_wide (l : List HeldD) : Wide (.sl true 22 (l.map HeldD.dull)) := .sl _ _ _ (by decide) fun c hc => by
  obtain ⟨t, _, rfl⟩ := List.mem_map.1 hc
  exact hdull_wide t
theorem spoil_Limbo (l : List HeldD) (hok : ∀ t ∈ l, t.ok) (hl : l.length ≤ 4611686018427387904) : Spoil Try.prog 55 (.sl true 22 (l.map HeldD.dull)) :=
  spoil_of (hdulls_wide l) ⟨_, _, Try.func55, by kernel_rfl, rfl⟩ fun I B w v hx hs hB => walk_Limbo I B w l hok hl v hx hs hB
end Go.Proofs.Ytpepfhbfooeoeaa.VA
end
section
namespace Go.Proofs.Ytpepfhbfooeoeaa.VA

noncomputable def cfs (n : Nat) (live : List Nat) (spc spl : FuncId → Bool) : Cfg := { P := Try.prog, ti := ti, n := n, live := live, ownp := fun _ => [], spc := spc, spl := spl }
theorem cfs_ok (n : Nat) (live : List Nat) (spc spl : FuncId → Bool) : CfgOk (cfs n live spc spl) := ⟨(cf_ok 0 [] (fun _ => [])).mixed, (cf_ok 0 [] (fun _ => [])).fit⟩
/-! What was put by. -/
theorem sty_agg {s : Stash} : ∀ {xs ys : List AV}, xs.length = ys.length → (∀ (j : Nat) x y, xs[j]? = some x → ys[j]? = some y → Sty s x y) → Sty s (.agg xs) (.agg ys) := fun hl h => .agg _ _ hl h
theorem sty_nil (s : Stash) : ∀ (j : Nat) x y, ([] : List AV)[j]? = some x → ([] : List AV)[j]? = some y → Sty s x y := fun j x y h => by cases h
theorem sty_cons {s : Stash} {x y : AV} {xs ys : List AV} (h : Sty s x y) (hr : ∀ (j : Nat) x y, xs[j]? = some x → ys[j]? = some y → Sty s x y) : ∀ (j : Nat) u v, (x :: xs)[j]? = some u → (y :: ys)[j]? = some v → Sty s u v := fun j u v hu hv => by
  cases j with
  | zero =>
    simp only [List.getElem?_cons_zero, Option.some.injEq] at hu hv
    subst hu hv; exact h
  | succ j => exact hr j u v (by simpa using hu) (by simpa using hv)
theorem by_nil (s : Stash) : ∀ (j : Nat) x y, ([] : List AV)[j]? = some x → ([] : List AV)[j]? = some y → By s x y := fun j x y h => by cases h
theorem by_cons {s : Stash} {x y : AV} {xs ys : List AV} (h : By s x y) (hr : ∀ (j : Nat) x y, xs[j]? = some x → ys[j]? = some y → By s x y) : ∀ (j : Nat) u v, (x :: xs)[j]? = some u → (y :: ys)[j]? = some v → By s u v := fun j u v hu hv => by
  cases j with
  | zero =>
    simp only [List.getElem?_cons_zero, Option.some.injEq] at hu hv
    subst hu hv; exact h
  | succ j => exact hr j u v (by simpa using hu) (by simpa using hv)
end Go.Proofs.Ytpepfhbfooeoeaa.VA
end
section
namespace Go.Proofs.Ytpepfhbfooeoeaa.VA
set_option maxRecDepth 10000
set_option maxHeartbeats 16000000

def spcP (f : FuncId) : Bool := Nat.beq f 49 || (Nat.beq f 55 || Nat.beq f 54)
def splP (f : FuncId) : Bool := Nat.beq f 55
theorem spcP_heavy : spcP 48 = false := rfl
theorem spcP_Copy : spcP 50 = false := rfl
theorem spcP_Push : spcP 49 = true := rfl
theorem spcP_rL : spcP 51 = false := rfl
theorem spcP_Tx : spcP 33 = false := rfl
theorem spcP_Num : spcP 46 = false := rfl
theorem spcP_rP : spcP 52 = false := rfl
theorem spcP_num : spcP 53 = false := rfl
theorem spcP_Eq : spcP 54 = true := rfl
theorem spcP_L : spcP 55 = true := rfl
theorem spcP_wakes : spcP 56 = false := rfl
theorem insAt_ok {l : List HeldD} {p : Nat} {x : HeldD} (h : ∀ a ∈ l, a.ok) (hx : x.ok) : ∀ a ∈ insAt l p x, a.ok := fun a ha => by
  unfold insAt at ha
  rcases List.mem_append.1 ha with h1 | h1
  · exact h a (List.mem_of_mem_take h1)
  · rcases List.mem_cons.1 h1 with h2 | h2
    · rw [h2]; exact hx
    · exact h a (List.mem_of_mem_drop h2)
theorem pushOut_ok {l : List HeldD} {t : TxD} {n : Int} (h : ∀ a ∈ l, a.ok) (ht : t.ok) (hn : -9223372036854775808 ≤ n ∧ n ≤ 9223372036854775807) : ∀ a ∈ pushOut l t n, a.ok := by
  unfold pushOut
  split
  · exact insAt_ok h ⟨ht, hn⟩
  · intro a ha; cases ha
theorem pushOut_len (l : List HeldD) (t : TxD) (n : Int) : (pushOut l t n).length ≤ 48 := by
  unfold pushOut
  split
  · rename_i h
    unfold pushErr at h
    split at h
    · split at h
      · cases h
      · split at h
        · cases h
        · unfold insAt
          simp only [List.length_append, List.length_cons, List.length_take, List.length_drop]
          omega
    · cases h
  · exact Nat.zero_le _
theorem pushErr_one {l : List HeldD} {t : TxD} {n : Int} (h : ¬ (limboOk l = true ∧ validTx t = true ∧ 0 ≤ n ∧ n ≤ 1099511627776)) : pushErr l t n = 1 ∧ pushOut l t n = [] := by
  have e : pushErr l t n = 1 := if_neg fun k => h ⟨k.2.1, k.1, k.2.2⟩
  exact ⟨e, by unfold pushOut; rw [e]; rfl⟩
theorem c_LimboPushes (s : Script20) (hok : s.ok) : Contract Try.prog 8 [s.av] (.bool true) := by
  have hHv := c_law20_heavy s hok
  have hL := c_ref16_Limbo s.h hok.hl hok.h
  have hC := c_CopyLimbo s.h hok.hl hok.h
  have hh := hok.hl
  have hl := hok.ll
  unfold reachBytes at hh hl
  refine contract_of (C := cfs 74 [1, 2, 3, 4, 5, 6, 7, 8, 10, 19, 50, 70] spcP splP) (cfs_ok _ _ _ _) (fn := Try.f8) Try.func8 (by kernel_rfl) rfl (by kernel_rfl) (by simp [cfs]) (hspc := fun _ => rfl) (plain1 (script_plain s)) (by decide) (cellsOk (by kernel_rfl)) ?_
  simp only [go_sem, seval, cfs, Script20.av, spcP_heavy]
  refine ex_call (by exact hHv) ?_
  cases hv : heavy20 s with
  | true =>
    simp only [go_sem, seval]
    refine finOne ?_ (fun _ e => by cases e)
    show resOf _ _ [.tmp 2] = _
    simp only [go_sem, seval]
  | false =>
    simp only [go_sem, seval, List.length_map]
    refine ex_iter [1, 3] (fun i : Nat => ⟨[(1, .var 1 0), (3, .int .i64 i)], [(1, [.sl false 22 (s.h.map HeldD.av), .sl false 23 (s.l.map Act20.av)])], []⟩) (fun i => i ≤ s.l.length) (fun i => s.l.length - i) 0 ?_ ?_ ?_
    · simp only [ASt.keep, consIf, keepL, keepV, AV.isBot, List.contains_cons, List.contains_nil, Nat.reduceBEq, Bool.or_false, Bool.false_or, Bool.or_true, Bool.true_or, beq_self_eq_true, Bool.false_eq_true, ↓reduceIte, if_false, if_true]
      try rfl
    · exact Nat.zero_le _
    · intro n i hi next
      simp only [go_sem, seval, List.length_map]
      refine ex_joinB 19 (decide (i < s.l.length) && decide (i < 12)) ?_ ?_
      · repeat' (first | (refine ex_split (fun h => ?_) (fun h => ?_)) | (with_reducible refine And.intro (by omega) ?_) |
          (simp only [go_sem, seval, List.length_map]))
        all_goals (try simp only [ASt.mk.injEq, List.cons.injEq, Prod.mk.injEq, AV.bool.injEq, true_and, and_true, eq_self])
        all_goals first | (simp_all; done) | (simp_all; omega) | (rw [Bool.eq_iff_iff]; simp only [List.length_map, Bool.or_eq_true, Bool.and_eq_true, Bool.not_eq_true', Bool.not_eq_false', decide_eq_true_eq, decide_eq_false_iff_not, bne_iff_ne, beq_iff_eq, ne_eq, true_iff, iff_true, false_iff, iff_false, Bool.false_eq_true, not_false_eq_true, not_true_eq_false] at *; omega)
      simp only [go_sem, seval]
      refine ex_br (fun h => ?_) (fun h => ?_)
      · have hlt : i < s.l.length := by simp at h; omega
        obtain ⟨a, ea⟩ : ∃ a, s.l[i]? = some a := ⟨_, List.getElem?_eq_getElem hlt⟩
        have hao := hok.l a (List.mem_of_getElem? ea)
        have hPu := c_limbo_PushT s.h a.t a.n hok.hl hok.h hao.t
        have hVt : Contract Try.prog 33 [txE a.t] (.bool (validTx a.t)) := c_ref7_Tx a.t hao.t
        have hN := c_Num a.n 1099511627776
        have hXok := pushOut_ok (l := s.h) (t := a.t) (n := a.n) hok.h hao.t hao.n
        have hXl := pushOut_len s.h a.t a.n
        have hone := pushErr_one (l := s.h) (t := a.t) (n := a.n)
        have hRP := c_ref20_Push s.h a.t a.n hok.hl hok.h hao.t
        obtain ⟨X, hX⟩ : ∃ X, X = pushOut s.h a.t a.n := ⟨_, rfl⟩
        obtain ⟨er, her⟩ : ∃ er, er = pushErr s.h a.t a.n := ⟨_, rfl⟩
        rw [← hX] at hPu hXok hXl hone hRP
        rw [← her] at hPu hone hRP
        have hXlen : X.length * 208 ≤ reachBytes := by unfold reachBytes; omega
        have hEX := c_EqLimbo X X hXlen hXlen hXok hXok
        rw [decide_eq_true rfl] at hEX
        have hspo := spoil_Limbo X hXok (by omega)
        simp only [go_sem, seval, spcP_heavy, spcP_Copy, spcP_Push, spcP_rL, spcP_Tx, spcP_Num, spcP_rP, spcP_num, spcP_Eq, spcP_L, spcP_wakes, List.length_map, List.getElem?_map, ea, Int.toNat_natCast, Act20.av]
        repeat with_reducible refine And.intro (by first | omega | (simp only [List.length_cons, List.length_append, List.length_nil, List.length_map, List.length_take, List.length_drop, List.length_set]; omega)) ?_
        try simp only [go_sem, seval, spcP_heavy, spcP_Copy, spcP_Push, spcP_rL, spcP_Tx, spcP_Num, spcP_rP, spcP_num, spcP_Eq, spcP_L, spcP_wakes]
        refine ex_draw [] [] (.quiet 0 (.quiet 1 (.quiet 3 (.quiet 4 (.quiet 5 (.quiet 6 (.one 2 (.one 7 (.quiet 8 (.quiet 9 (.quiet 10 (.quiet 11 (.quiet 12 (.fin)))))))))))))) (by kernel_rfl) ?_
        simp only [go_sem, seval, spcP_heavy, spcP_Copy, spcP_Push, spcP_rL, spcP_Tx, spcP_Num, spcP_rP, spcP_num, spcP_Eq, spcP_L, spcP_wakes]
        refine ex_call (by exact hC) ?_
        simp only [go_sem, seval, spcP_heavy, spcP_Copy, spcP_Push, spcP_rL, spcP_Tx, spcP_Num, spcP_rP, spcP_num, spcP_Eq, spcP_L, spcP_wakes]
        refine ex_fork (.cons (dsl _ _ _) (.cons (.refl _) (.cons (.refl _) .nil))) (by exact hPu) rfl rfl (fun z => ?_)
        simp only [go_sem, seval, spcP_heavy, spcP_Copy, spcP_Push, spcP_rL, spcP_Tx, spcP_Num, spcP_rP, spcP_num, spcP_Eq, spcP_L, spcP_wakes, ASt.stow, AV.stowT, AV.stowA, AV.stow]
        refine ex_call (by exact hL) ?_
        cases d1 : limboOk s.h
        case' false =>
          obtain ⟨e1, e0⟩ := hone (by rw [d1]; rintro ⟨h, _⟩; cases h)
          have hE0 : Contract Try.prog 54 [limbo X, .sl false 22 []] (.bool true) := by rw [e0] at hEX ⊢; exact hEX
          rw [e1]
          simp only [go_sem, seval, spcP_heavy, spcP_Copy, spcP_Push, spcP_rL, spcP_Tx, spcP_Num, spcP_rP, spcP_num, spcP_Eq, spcP_L, spcP_wakes]
          refine ex_call (by exact c_law20_num _) ?_
          simp only [go_sem, seval, spcP_heavy, spcP_Copy, spcP_Push, spcP_rL, spcP_Tx, spcP_Num, spcP_rP, spcP_num, spcP_Eq, spcP_L, spcP_wakes, bne_self_eq_false]
          refine ex_ask z (.head _) (.cons (.st (helds_map X true)) (.cons (.dull (dsl _ _ _) rfl) .nil)) (by exact hE0) rfl ?_
          simp only [go_sem, seval, spcP_heavy, spcP_Copy, spcP_Push, spcP_rL, spcP_Tx, spcP_Num, spcP_rP, spcP_num, spcP_Eq, spcP_L, spcP_wakes]
          refine ex_spoil z [] [] rfl rfl (.st _) (by exact hspo) ?_
          simp only [go_sem, seval, spcP_heavy, spcP_Copy, spcP_Push, spcP_rL, spcP_Tx, spcP_Num, spcP_rP, spcP_num, spcP_Eq, spcP_L, spcP_wakes, ASt.unstow]
          refine next (i + 1) _ (by omega) (by omega) ?_
          rw [← wi64_nat i (by omega)]
          simp only [ASt.keep, consIf, keepL, keepV, AV.isBot, List.contains_cons, List.contains_nil, Nat.reduceBEq, Bool.or_false, Bool.false_or, Bool.or_true, Bool.true_or, beq_self_eq_true, Bool.false_eq_true, ↓reduceIte, if_false, if_true]
          try rfl
        simp only [go_sem, seval, spcP_heavy, spcP_Copy, spcP_Push, spcP_rL, spcP_Tx, spcP_Num, spcP_rP, spcP_num, spcP_Eq, spcP_L, spcP_wakes, List.length_map, List.getElem?_map, ea, Int.toNat_natCast, Act20.av]
        refine ex_call (by exact hVt) ?_
        cases d2 : validTx a.t
        case' false =>
          obtain ⟨e1, e0⟩ := hone (by rw [d2]; rintro ⟨_, h, _⟩; cases h)
          have hE0 : Contract Try.prog 54 [limbo X, .sl false 22 []] (.bool true) := by rw [e0] at hEX ⊢; exact hEX
          rw [e1]
          simp only [go_sem, seval, spcP_heavy, spcP_Copy, spcP_Push, spcP_rL, spcP_Tx, spcP_Num, spcP_rP, spcP_num, spcP_Eq, spcP_L, spcP_wakes]
          refine ex_call (by exact c_law20_num _) ?_
          simp only [go_sem, seval, spcP_heavy, spcP_Copy, spcP_Push, spcP_rL, spcP_Tx, spcP_Num, spcP_rP, spcP_num, spcP_Eq, spcP_L, spcP_wakes, bne_self_eq_false]
          refine ex_ask z (.head _) (.cons (.st (helds_map X true)) (.cons (.dull (dsl _ _ _) rfl) .nil)) (by exact hE0) rfl ?_
          simp only [go_sem, seval, spcP_heavy, spcP_Copy, spcP_Push, spcP_rL, spcP_Tx, spcP_Num, spcP_rP, spcP_num, spcP_Eq, spcP_L, spcP_wakes]
          refine ex_spoil z [] [] rfl rfl (.st _) (by exact hspo) ?_
          simp only [go_sem, seval, spcP_heavy, spcP_Copy, spcP_Push, spcP_rL, spcP_Tx, spcP_Num, spcP_rP, spcP_num, spcP_Eq, spcP_L, spcP_wakes, ASt.unstow]
          refine next (i + 1) _ (by omega) (by omega) ?_
          rw [← wi64_nat i (by omega)]
          simp only [ASt.keep, consIf, keepL, keepV, AV.isBot, List.contains_cons, List.contains_nil, Nat.reduceBEq, Bool.or_false, Bool.false_or, Bool.or_true, Bool.true_or, beq_self_eq_true, Bool.false_eq_true, ↓reduceIte, if_false, if_true]
          try rfl
        simp only [go_sem, seval, spcP_heavy, spcP_Copy, spcP_Push, spcP_rL, spcP_Tx, spcP_Num, spcP_rP, spcP_num, spcP_Eq, spcP_L, spcP_wakes, List.length_map, List.getElem?_map, ea, Int.toNat_natCast, Act20.av]
        refine ex_call (by exact hN) ?_
        cases d3 : (decide (0 ≤ a.n) && decide (a.n ≤ 1099511627776))
        case' false =>
          obtain ⟨e1, e0⟩ := hone (by rintro ⟨_, _, h1, h2⟩; simp [h1, h2] at d3)
          have hE0 : Contract Try.prog 54 [limbo X, .sl false 22 []] (.bool true) := by rw [e0] at hEX ⊢; exact hEX
          rw [e1]
          simp only [go_sem, seval, spcP_heavy, spcP_Copy, spcP_Push, spcP_rL, spcP_Tx, spcP_Num, spcP_rP, spcP_num, spcP_Eq, spcP_L, spcP_wakes]
          refine ex_call (by exact c_law20_num _) ?_
          simp only [go_sem, seval, spcP_heavy, spcP_Copy, spcP_Push, spcP_rL, spcP_Tx, spcP_Num, spcP_rP, spcP_num, spcP_Eq, spcP_L, spcP_wakes, bne_self_eq_false]
          refine ex_ask z (.head _) (.cons (.st (helds_map X true)) (.cons (.dull (dsl _ _ _) rfl) .nil)) (by exact hE0) rfl ?_
          simp only [go_sem, seval, spcP_heavy, spcP_Copy, spcP_Push, spcP_rL, spcP_Tx, spcP_Num, spcP_rP, spcP_num, spcP_Eq, spcP_L, spcP_wakes]
          refine ex_spoil z [] [] rfl rfl (.st _) (by exact hspo) ?_
          simp only [go_sem, seval, spcP_heavy, spcP_Copy, spcP_Push, spcP_rL, spcP_Tx, spcP_Num, spcP_rP, spcP_num, spcP_Eq, spcP_L, spcP_wakes, ASt.unstow]
          refine next (i + 1) _ (by omega) (by omega) ?_
          rw [← wi64_nat i (by omega)]
          simp only [ASt.keep, consIf, keepL, keepV, AV.isBot, List.contains_cons, List.contains_nil, Nat.reduceBEq, Bool.or_false, Bool.false_or, Bool.or_true, Bool.true_or, beq_self_eq_true, Bool.false_eq_true, ↓reduceIte, if_false, if_true]
          try rfl
        have hn2 : 0 ≤ a.n ∧ a.n ≤ 1099511627776 := by simpa using d3
        have hRP := hRP d1 d2 hn2
        simp only [go_sem, seval, spcP_heavy, spcP_Copy, spcP_Push, spcP_rL, spcP_Tx, spcP_Num, spcP_rP, spcP_num, spcP_Eq, spcP_L, spcP_wakes, List.length_map, List.getElem?_map, ea, Int.toNat_natCast, Act20.av]
        refine ex_call (by exact hRP) ?_
        simp only [go_sem, seval, spcP_heavy, spcP_Copy, spcP_Push, spcP_rL, spcP_Tx, spcP_Num, spcP_rP, spcP_num, spcP_Eq, spcP_L, spcP_wakes]
        refine ex_call (by exact c_law20_num _) ?_
        simp only [go_sem, seval, spcP_heavy, spcP_Copy, spcP_Push, spcP_rL, spcP_Tx, spcP_Num, spcP_rP, spcP_num, spcP_Eq, spcP_L, spcP_wakes, bne_self_eq_false]
        refine ex_ask z (.head _) (.cons (.st (helds_map X true)) (.cons (.dull (dsl _ _ _) rfl) .nil)) (by exact hEX) rfl ?_
        simp only [go_sem, seval, spcP_heavy, spcP_Copy, spcP_Push, spcP_rL, spcP_Tx, spcP_Num, spcP_rP, spcP_num, spcP_Eq, spcP_L, spcP_wakes]
        refine ex_spoil z [] [] rfl rfl (.st _) (by exact hspo) ?_
        simp only [go_sem, seval, spcP_heavy, spcP_Copy, spcP_Push, spcP_rL, spcP_Tx, spcP_Num, spcP_rP, spcP_num, spcP_Eq, spcP_L, spcP_wakes, ASt.unstow]
        refine next (i + 1) _ (by omega) (by omega) ?_
        rw [← wi64_nat i (by omega)]
        simp only [ASt.keep, consIf, keepL, keepV, AV.isBot, List.contains_cons, List.contains_nil, Nat.reduceBEq, Bool.or_false, Bool.false_or, Bool.or_true, Bool.true_or, beq_self_eq_true, Bool.false_eq_true, ↓reduceIte, if_false, if_true]
        try rfl
      · simp only [go_sem, seval, spcP_wakes]
        refine ex_call (by exact c_law20_wakes) ?_
        simp only [go_sem, seval]
        refine finOne ?_ (fun _ e => by cases e)
        show resOf _ _ [.tmp 2] = _
        simp only [go_sem, seval]
theorem law_LimboPushes (x : AV) (h : Ty ti 76 x) : Contract Try.prog 8 [x] (.bool true) := by
  obtain ⟨s, rfl, hs⟩ := ty_script h
  exact c_LimboPushes s hs
end Go.Proofs.Ytpepfhbfooeoeaa.VA
end
section
namespace Go.Proofs.Ytpepfhbfooeoeaa.VA
set_option maxRecDepth 100000

def txN (i : Nat) : TxD := plainTx ((i % 8 : Nat) : Int) i 5
def heldN (i : Nat) : HeldD := ⟨txN i, i⟩
theorem ids_eq : (List.range 49).map (fun i => idTx (txN i)) = [7535763002532471420, 12905963635006806882, 6546862456234177464, 14707089468116008570, 16603691005939095884,   2497277681792050986, 10051039654073355040, 14453978222162306178, 7928028896941850020, 16301462512443941658,   642882710130030176, 2947186569515095490, 8499732404024340788, 15633939744489843122, 15059461615657765496,   15754762410690751802, 1829302306608937996, 9653337198086162322, 18444028238893105032, 18127002191403590122,   1264687761978797884, 13841650625307930042, 8985967028071139440, 5642629901069838130, 1285996043322482420,   6065533971055458698, 12447717767233718448, 4117255650576385394, 18141093388592672484, 6018802402786928386,   11671210953839278408, 3685505315294694570, 6467119212833054748, 10640361258025368642, 16616842581190641176,   153133161545096346, 9960889093826190316, 6444170128919883082, 1694668310457256704, 8907474972991969954,   452921524440898500, 15478607513308426490, 16051099375552764736, 12134445589814388962, 7379496308852139604,   11555993075331832914, 1272809997992421080, 6947594810052889946, 8254624216211505580]  := by decide +kernel
theorem ids_nodup : ((List.range 49).map (fun i => idTx (txN i))).Nodup := by rw [ids_eq]; decide +kernel
theorem ids_inj {i j : Nat} (hi : i < 49) (hj : j < 49) (h : idTx (txN i) = idTx (txN j)) : i = j := by
  refine (List.getElem?_inj (l := (List.range 49).map (fun i => idTx (txN i))) (by simpa using hi) ids_nodup).1 ?_
  rw [List.getElem?_map, List.getElem?_map, List.getElem?_range hi, List.getElem?_range hj]
  exact congrArg some h
theorem txN_valid (i : Nat) (hi : i < 49) : validTx (txN i) = true := plain_valid _ _ 5 ⟨by omega, by omega⟩ ⟨by omega, by omega⟩ (by decide)
theorem txN_ok (i : Nat) (hi : i < 49) : (txN i).ok := plain_ok _ _ 5 ⟨by omega, by omega⟩ ⟨by omega, by omega⟩ (by decide)
theorem heldN_ok (i : Nat) (hi : i < 49) : (heldN i).ok := ⟨txN_ok i hi, by show -9223372036854775808 ≤ (i : Int) ∧ (i : Int) ≤ 9223372036854775807; omega⟩
theorem heldN_heldOk (i : Nat) (hi : i < 49) : heldOk (heldN i) = true := by
  unfold heldOk
  have h1 : validTx (heldN i).t = true := txN_valid i hi
  have h2 : (heldN i).n = (i : Int) := rfl
  rw [h1, h2]
  simp
  omega
theorem insAt_perm (l : List HeldD) (p : Nat) (x : HeldD) : (insAt l p x).Perm (x :: l) := by
  unfold insAt
  exact (List.perm_middle).trans (by rw [List.take_append_drop])
theorem insAt_get {l : List HeldD} {p k : Nat} {x y : HeldD} (hp : p ≤ l.length) (e : (insAt l p x)[k]? = some y) : (k < p ∧ l[k]? = some y) ∨ (k = p ∧ y = x) ∨ (p < k ∧ l[k - 1]? = some y) := by
  unfold insAt at e
  have hlen : (l.take p).length = p := by simp; omega
  rcases Nat.lt_trichotomy k p with h | h | h
  · rw [List.getElem?_append_left (by omega), List.getElem?_take_of_lt h] at e
    exact .inl ⟨h, e⟩
  · rw [List.getElem?_append_right (by omega), hlen, h, Nat.sub_self, List.getElem?_cons_zero] at e
    cases e
    exact .inr (.inl ⟨h, rfl⟩)
  · rw [List.getElem?_append_right (by omega), hlen] at e
    obtain ⟨d, rfl⟩ : ∃ d, k = p + d + 1 := ⟨k - p - 1, by omega⟩
    rw [show p + d + 1 - p = d + 1 by omega, List.getElem?_cons_succ, List.getElem?_drop] at e
    exact .inr (.inr ⟨h, e⟩)
theorem insAt_limbo {l : List HeldD} (h : limboOk l = true) (x : HeldD) (hx : heldOk x = true) (hno : thereAt l (idTx x.t) (posOf l (idTx x.t)) = false) (h48 : l.length < 48) : limboOk (insAt l (posOf l (idTx x.t)) x) = true := by
  rw [limbo_iff] at h ⊢
  obtain ⟨h1, h2, h3⟩ := h
  obtain ⟨hp1, hp2⟩ := place_pos l (idTx x.t) h2
  have hne : ∀ a ∈ l, (idTx a.t : Int) ≠ idTx x.t := fun a ha e => by
    have := (there_iff h2).2 ⟨a, ha, e⟩
    rw [hno] at this; cases this
  generalize posOf l (idTx x.t) = p at *
  refine ⟨by have := (insAt_perm l p x).length_eq; simp only [List.length_cons] at this; omega, fun k y z e1 e2 => ?_, fun a ha => ?_⟩
  · have below : ∀ j w, l[j]? = some w → j < p → idTx w.t < idTx x.t := fun j w ew hj => (hp2 j w ew).2 hj
    have above : ∀ j w, l[j]? = some w → p ≤ j → idTx x.t < idTx w.t := fun j w ew hj => by
      have q1 : ¬ idTx w.t < idTx x.t := fun h => by have := (hp2 j w ew).1 h; omega
      have q2 := hne w (List.mem_of_getElem? ew)
      omega
    rcases insAt_get hp1 e1 with ⟨a1, a2⟩ | ⟨a1, a2⟩ | ⟨a1, a2⟩ <;> rcases insAt_get hp1 e2 with ⟨b1, b2⟩ | ⟨b1, b2⟩ | ⟨b1, b2⟩
    · exact h2 k y z a2 b2
    · subst b2; exact below k y a2 a1
    · omega
    · omega
    · omega
    · subst a2
      exact above k z (by rw [show k + 1 - 1 = k by omega] at b2; exact b2) (by omega)
    · omega
    · omega
    · refine h2 (k - 1) y z a2 ?_
      rw [show k - 1 + 1 = k + 1 - 1 by omega]; exact b2
  · rcases List.mem_cons.1 ((insAt_perm l p x).mem_iff.1 ha) with h | h
    · rw [h]; exact hx
    · exact h3 a h
structure LimboN (i : Nat) (l : List HeldD) : Prop where
  ok : limboOk l = true
  perm : l.Perm ((List.range i).map heldN)
theorem LimboN.len {i : Nat} {l : List HeldD} (h : LimboN i l) : l.length = i := by rw [h.perm.length_eq]; simp
theorem LimboN.mem {i : Nat} {l : List HeldD} (h : LimboN i l) {a : HeldD} (ha : a ∈ l) : ∃ j < i, a = heldN j := by
  have := h.perm.mem_iff.1 ha
  obtain ⟨j, hj, rfl⟩ := List.mem_map.1 this
  exact ⟨j, List.mem_range.1 hj, rfl⟩
theorem LimboN.has {i j : Nat} {l : List HeldD} (h : LimboN i l) (hj : j < i) : heldN j ∈ l := h.perm.mem_iff.2 (List.mem_map.2 ⟨j, List.mem_range.2 hj, rfl⟩)
theorem LimboN.oks {i : Nat} {l : List HeldD} (h : LimboN i l) (hi : i < 49) : ∀ a ∈ l, a.ok := fun a ha => by
  obtain ⟨j, hj, rfl⟩ := h.mem ha
  exact heldN_ok j (by omega)
theorem LimboN.not {i : Nat} {l : List HeldD} (h : LimboN i l) (hi : i < 49) : thereAt l (idTx (txN i)) (posOf l (idTx (txN i))) = false := by
  cases e : thereAt l (idTx (txN i)) (posOf l (idTx (txN i))) with
  | false => rfl
  | true =>
    obtain ⟨x, hx, hid⟩ := (there_iff (limbo_sorted h.ok).2.1).1 e
    obtain ⟨j, hj, rfl⟩ := h.mem hx
    have := ids_inj (i := j) (j := i) (by omega) hi hid
    omega
theorem LimboN.err {i : Nat} {l : List HeldD} (h : LimboN i l) (hi : i < 48) : pushErr l (txN i) i = 0 := by
  unfold pushErr
  rw [if_pos ⟨txN_valid i (by omega), h.ok, by omega, by omega⟩, h.not (by omega), if_neg (by decide), if_neg (by rw [h.len]; omega)]
theorem LimboN.next {i : Nat} {l : List HeldD} (h : LimboN i l) (hi : i < 48) : LimboN (i + 1) (pushOut l (txN i) i) := by
  have e : pushOut l (txN i) i = insAt l (posOf l (idTx (txN i))) (heldN i) := by
    unfold pushOut
    rw [h.err hi, if_pos rfl]; rfl
  refine ⟨?_, ?_⟩
  · rw [e]
    exact insAt_limbo h.ok (heldN i) (heldN_heldOk i (by omega)) (h.not (by omega)) (by rw [h.len]; omega)
  · rw [e, List.range_succ, List.map_append]
    refine (insAt_perm _ _ _).trans ((h.perm.cons _).trans ?_)
    exact (List.perm_append_singleton (heldN i) _).symm
theorem limboN_nil : LimboN 0 [] := ⟨by decide, by simp⟩
theorem LimboN.there {i : Nat} {l : List HeldD} (h : LimboN (i + 1) l) (hi : i < 48) : pushErr l (txN i) 7 = 4 := by
  have hx : thereAt l (idTx (txN i)) (posOf l (idTx (txN i))) = true := (there_iff (limbo_sorted h.ok).2.1).2 ⟨heldN i, h.has (by omega), rfl⟩
  unfold pushErr
  rw [if_pos ⟨txN_valid i (by omega), h.ok, by decide, by decide⟩, hx, if_pos rfl]
theorem LimboN.full {l : List HeldD} (h : LimboN 48 l) : pushErr l (txN 48) 48 = 5 := by
  unfold pushErr
  rw [if_pos ⟨txN_valid 48 (by omega), h.ok, by decide, by decide⟩, h.not (by decide), if_neg (by decide), if_pos (by rw [h.len]; decide)]
/-! What is final. -/
theorem gone_count : ∀ c < 48, ((List.range 48).filter fun i => decide (((i : Nat) : Int) ≤ ((c : Nat) : Int))).length = c + 1 := by decide +kernel
theorem stay_count : ∀ c < 48, ((List.range 48).filter fun i => decide (((c : Nat) : Int) < ((i : Nat) : Int))).length = 47 - c := by decide +kernel
theorem LimboN.goneLen {l : List HeldD} (h : LimboN 48 l) {c : Nat} (hc : c < 48) : (goneOf l c).length = c + 1 := by
  unfold goneOf
  rw [(h.perm.filter _).length_eq, List.filter_map, List.length_map]
  exact gone_count c hc
theorem LimboN.stayLen {l : List HeldD} (h : LimboN 48 l) {c : Nat} (hc : c < 48) : (stayOf l c).length = 47 - c := by
  unfold stayOf
  rw [(h.perm.filter _).length_eq, List.filter_map, List.length_map]
  exact stay_count c hc
theorem sorted_pair {l : List HeldD} : sortedH l ↔ l.Pairwise fun a b => idTx a.t < idTx b.t := by
  constructor
  · intro h
    rw [List.pairwise_iff_getElem]
    intro i j hi hj hij
    exact sorted_lt' h hij (List.getElem?_eq_getElem hi) (List.getElem?_eq_getElem hj)
  · intro h k x y e1 e2
    rw [List.pairwise_iff_getElem] at h
    obtain ⟨h1, rfl⟩ := List.getElem?_eq_some_iff.1 e1
    obtain ⟨h2, rfl⟩ := List.getElem?_eq_some_iff.1 e2
    exact h k (k + 1) h1 h2 (by omega)
theorem filter_limbo {l : List HeldD} (h : limboOk l = true) (p : HeldD → Bool) : limboOk (l.filter p) = true := by
  rw [limbo_iff] at h ⊢
  obtain ⟨h1, h2, h3⟩ := h
  exact ⟨Nat.le_trans (List.length_filter_le _ _) h1, sorted_pair.2 ((sorted_pair.1 h2).filter _), fun a ha => h3 a (List.mem_filter.1 ha).1⟩
theorem LimboN.pull {l : List HeldD} (h : LimboN 48 l) {i : Nat} (hi : i < 48) : ∃ k, k < l.length ∧ pullOf l (idTx (txN i)) = (l.eraseIdx k, heldN i, 0) := by
  obtain ⟨k, ek⟩ := List.getElem?_of_mem (h.has hi)
  have hp := pull_at h.ok ek
  rw [show idTx (heldN i).t = idTx (txN i) from rfl] at hp
  exact ⟨k, (List.getElem?_eq_some_iff.1 ek).1, hp⟩
theorem LimboN.pullStay {l : List HeldD} (h : LimboN 48 l) {i c : Nat} (hi : i < 48) : ((pullOf (stayOf l c) (idTx (txN i))).2.2 == 0) = decide (c < i) := by
  have hs : limboOk (stayOf l c) = true := filter_limbo h.ok _
  rcases Nat.lt_or_ge c i with hc | hc
  · have hm : heldN i ∈ stayOf l c := List.mem_filter.2 ⟨h.has hi, by show decide ((c : Int) < (i : Int)) = true; exact decide_eq_true (by omega)⟩
    obtain ⟨k, ek⟩ := List.getElem?_of_mem hm
    rw [show idTx (txN i) = idTx (heldN i).t from rfl, pull_at hs ek, decide_eq_true hc]; rfl
  · rw [decide_eq_false (by omega)]
    unfold pullOf
    generalize posOf (stayOf l c) (idTx (txN i)) = p
    cases e : (stayOf l c)[p]? with
    | none => rfl
    | some x =>
      show ((if idTx x.t = idTx (txN i) then _ else _ : List HeldD × HeldD × Int).2.2 == 0) = false
      rw [if_neg]
      · rfl
      · intro hid
        obtain ⟨h1, h2⟩ := List.mem_filter.1 (List.mem_of_getElem? e)
        obtain ⟨j, hj, rfl⟩ := h.mem h1
        have := ids_inj (i := j) (j := i) (by omega) (by omega) hid
        subst this
        have h2 : decide ((c : Int) < (j : Int)) = true := h2
        have := of_decide_eq_true h2
        omega
end Go.Proofs.Ytpepfhbfooeoeaa.VA
end
section
namespace Go.Proofs.Ytpepfhbfooeoeaa.VA
set_option maxRecDepth 10000
set_option maxHeartbeats 16000000

theorem c_T5 (i : Nat) : Contract Try.prog 22 [.int .i64 ((i % 8 : Nat) : Int), .int .i64 i, .int .u64 (5 : Int)] (txE (txN i)) := c_T _ _ 5 (by decide)
theorem c_LimboBack (s : Script20) (hok : s.ok) : Contract Try.prog 11 [s.av] (.bool true) := by
  have hl := hok.ll
  unfold reachBytes at hl
  refine contract_of (C := cf 150 [1, 2, 3, 4, 5, 6, 8, 9, 10, 11, 12, 13, 14, 15, 16, 17, 20, 22, 36, 39, 63, 94, 96, 148] (fun _ => [])) (cf_ok _ _ _) (fn := Try.f11) Try.func11 (by kernel_rfl) rfl (by kernel_rfl) (by simp [cf]) (plain1 (script_plain s)) (by decide) (cellsOk (by kernel_rfl)) ?_
  simp only [go_sem, seval, Script20.av]
  refine ex_iter [1, 3, 4] (fun g : Nat × AV => ⟨[(1, .var 1 0), (3, g.2), (4, .int .i64 g.1)], [(1, [.sl false 22 (s.h.map HeldD.av), .sl false 23 (s.l.map Act20.av)])], []⟩)
    (fun g => g.1 ≤ 48 ∧ ∃ l, LimboN g.1 l ∧ (g.2 = .sl true 22 (l.map HeldD.dull) ∨ l = [] ∧ g.2 = .own false 22 [])) (fun g => 48 - g.1) (0, .own false 22 []) ?_ ?_ ?_
  · simp only [ASt.keep, consIf, keepL, keepV, AV.isBot, List.contains_cons, List.contains_nil, Nat.reduceBEq, Bool.or_false, Bool.false_or, Bool.or_true, Bool.true_or, beq_self_eq_true, Bool.false_eq_true, ↓reduceIte, if_false, if_true]
    try rfl
  · exact ⟨by decide, [], limboN_nil, .inr ⟨rfl, rfl⟩⟩
  · rintro n ⟨i, lv⟩ ⟨hi, l, hN, hlv⟩ next
    dsimp only at hi hN hlv next ⊢
    have hlen := hN.len
    have r8 : (i : Int).tmod 8 = ((i % 8 : Nat) : Int) := by rw [Int.tmod_eq_emod_of_nonneg (by omega)]; omega
    have d1 : decide ((i : Int) ≤ 48) = true := decide_eq_true (by omega)
    have hT := c_T5 i
    have hto := txN_ok i (by omega)
    have hoks := hN.oks (by omega)
    have hlr : l.length * 208 ≤ reachBytes := by unfold reachBytes; omega
    have hPu := c_limbo_PushT l (txN i) i hlr hoks hto
    rcases Nat.lt_or_ge i 48 with h48 | h48
    · have d2 : ((i : Int) == 48) = false := by simp; omega
      have hX := hN.next h48
      rw [hN.err h48] at hPu
      have hXl := hX.len
      have hP2 := c_limbo_PushT (pushOut l (txN i) i) (txN i) 7 (by unfold reachBytes; omega) (hX.oks (by omega)) hto
      rw [hX.there h48] at hP2
      generalize pushOut l (txN i) i = X at *
      generalize pushOut X (txN i) 7 = Y at *
      generalize txN i = t at *
      have w1 : IntKind.i64.wrap ((i : Int) + 1) = ((i + 1 : Nat) : Int) := by rw [IntKind.wrap_i64]; omega
      rcases hlv with rfl | ⟨rfl, rfl⟩
      · simp only [go_sem, seval, d1, r8]
        refine ex_call (by exact hT) ?_
        simp only [go_sem, seval, d1, r8]
        refine ex_call_dull (.cons (helds_map l true) (.cons (.refl _) (.cons (.refl _) .nil))) (by exact hPu) ?_
        simp only [go_sem, seval, d2, r8]
        refine ex_call (by exact hT) ?_
        simp only [go_sem, seval]
        refine ex_call_dull (.cons (helds_map X true) (.cons (.refl _) (.cons (.refl _) .nil))) (by exact hP2) ?_
        simp only [go_sem, seval]
        refine ex_call (by exact c_law20_num _) ?_
        simp only [go_sem, seval, bne_self_eq_false, List.length_map, hXl, w1]
        refine ex_call (by exact c_law20_num _) ?_
        simp only [go_sem, seval, bne_self_eq_false]
        refine next (i + 1, .sl true 22 (X.map HeldD.dull)) _ ⟨by dsimp only; omega, X, hX, .inl rfl⟩ (by dsimp only; omega) ?_
        rw [← wi64_nat i (by omega)]
        simp only [ASt.keep, consIf, keepL, keepV, AV.isBot, List.contains_cons, List.contains_nil, Nat.reduceBEq, Bool.or_false, Bool.false_or, Bool.or_true, Bool.true_or, beq_self_eq_true, Bool.false_eq_true, ↓reduceIte, if_false, if_true]
        try rfl
      · simp only [go_sem, seval, d1, r8]
        refine ex_call (by exact hT) ?_
        simp only [go_sem, seval, d1, r8]
        refine ex_call_dull (.cons (dsl _ _ _) (.cons (.refl _) (.cons (.refl _) .nil))) (by exact hPu) ?_
        simp only [go_sem, seval, d2, r8]
        refine ex_call (by exact hT) ?_
        simp only [go_sem, seval]
        refine ex_call_dull (.cons (helds_map X true) (.cons (.refl _) (.cons (.refl _) .nil))) (by exact hP2) ?_
        simp only [go_sem, seval]
        refine ex_call (by exact c_law20_num _) ?_
        simp only [go_sem, seval, bne_self_eq_false, List.length_map, hXl, w1]
        refine ex_call (by exact c_law20_num _) ?_
        simp only [go_sem, seval, bne_self_eq_false]
        refine next (i + 1, .sl true 22 (X.map HeldD.dull)) _ ⟨by dsimp only; omega, X, hX, .inl rfl⟩ (by dsimp only; omega) ?_
        rw [← wi64_nat i (by omega)]
        simp only [ASt.keep, consIf, keepL, keepV, AV.isBot, List.contains_cons, List.contains_nil, Nat.reduceBEq, Bool.or_false, Bool.false_or, Bool.or_true, Bool.true_or, beq_self_eq_true, Bool.false_eq_true, ↓reduceIte, if_false, if_true]
        try rfl
    · have h48 : i = 48 := by omega
      subst h48
      rcases hlv with rfl | ⟨rfl, rfl⟩
      case inr => simp at hlen
      have hfull : pushErr l (txN 48) ((48 : Nat) : Int) = 5 := hN.full
      have d3 : (((48 : Nat) : Int) == 48) = true := rfl
      rw [hfull] at hPu
      generalize pushOut l (txN 48) ((48 : Nat) : Int) = X at *
      obtain ⟨c, hcut⟩ : ∃ c : Nat, c = withinOf (IntKind.i64.wrap ((s.l.length : Int) * 5)) 48 := ⟨_, rfl⟩
      have hW := c_Within (IntKind.i64.wrap ((s.l.length : Int) * 5)) 48 (by decide) (by decide)
      rw [← hcut] at hW
      have hc : c < 48 := by
        rw [hcut]
        unfold withinOf
        omega
      have hF := c_limbo_Final l c hlr hoks
      have hfo : finalOk l c = true := by
        unfold finalOk
        rw [hN.ok, decide_eq_true (show (0 : Int) ≤ c by omega), decide_eq_true (show (c : Int) ≤ 1099511627776 by omega)]; rfl
      rw [hfo, if_pos rfl, if_pos rfl, if_pos rfl] at hF
      have hgl := hN.goneLen hc
      have hsl := hN.stayLen hc
      have w1 : IntKind.i64.wrap ((c : Int) + 1) = ((c + 1 : Nat) : Int) := by rw [IntKind.wrap_i64]; omega
      have w2 : IntKind.i64.wrap (48 - (c : Int)) = ((48 - c : Nat) : Int) := by rw [IntKind.wrap_i64]; omega
      have w3 : IntKind.i64.wrap (((48 - c : Nat) : Int) - 1) = ((47 - c : Nat) : Int) := by rw [IntKind.wrap_i64]; omega
      have hso := stay_ok (l := l) (b := c) hoks
      have hstok : limboOk (stayOf l c) = true := filter_limbo hN.ok _
      simp only [go_sem, seval, d1, r8]
      refine ex_call (by exact hT) ?_
      simp only [go_sem, seval, d1, r8]
      refine ex_call_dull (.cons (helds_map l true) (.cons (.refl _) (.cons (.refl _) .nil))) (by exact hPu) ?_
      simp only [go_sem, seval, d3]
      refine ex_call (by exact c_law20_num _) ?_
      simp only [go_sem, seval, bne_self_eq_false, List.length_map]
      refine ex_call (by exact hW) ?_
      simp only [go_sem, seval]
      refine ex_call_dull (.cons (helds_map l true) (.cons (.refl _) .nil)) (by exact hF) ?_
      simp only [go_sem, seval]
      refine ex_call (by exact c_law20_num _) ?_
      simp only [go_sem, seval, bne_self_eq_false, List.length_map, hgl, hsl, w1, w2, w3]
      refine ex_iter [3, 9, 10, 13] (fun g : Nat × Bool => ⟨[(3, .sl true 22 (l.map HeldD.dull)), (9, .int .i64 c), (10, .own g.2 22 ((stayOf l c).map HeldD.av)), (13, .int .i64 g.1)], [], []⟩)
        (fun g => g.1 ≤ 48) (fun g => 48 - g.1) (0, false) ?_ ?_ ?_
      · simp only [ASt.keep, consIf, keepL, keepV, AV.isBot, List.contains_cons, List.contains_nil, Nat.reduceBEq, Bool.or_false, Bool.false_or, Bool.or_true, Bool.true_or, beq_self_eq_true, Bool.false_eq_true, ↓reduceIte, if_false, if_true]
        try rfl
      · exact Nat.zero_le _
      · clear next hPu hfull hT hto d1 d3 r8 hi
        rintro m ⟨i, b⟩ hi next
        dsimp only at hi next ⊢
        rcases Nat.lt_or_ge i 48 with h48 | h48
        · have d1 : decide ((i : Int) < 48) = true := decide_eq_true (by omega)
          have r8 : (i : Int).tmod 8 = ((i % 8 : Nat) : Int) := by rw [Int.tmod_eq_emod_of_nonneg (by omega)]; omega
          have hT := c_T5 i
          have hto := txN_ok i (by omega)
          have hID : Contract Try.prog 57 [txE (txN i)] (.int .u64 (idTx (txN i))) := c_ref7_ID (txN i) hto (txN_valid i (by omega))
          obtain ⟨k, hk, hpk⟩ := hN.pull h48
          have hP := c_limbo_Pull l (idTx (txN i)) hlr hoks hN.ok
          rw [hpk] at hP
          have hel : (l.eraseIdx k).length = 47 := by rw [List.length_eraseIdx, if_pos hk]; omega
          have hQ := c_limbo_Pull (stayOf l c) (idTx (txN i)) (by unfold reachBytes; omega) hso hstok
          have hq := hN.pullStay (c := c) h48
          have hE := r_Eq (txN i) (txN i) hto hto
          rw [decide_eq_true rfl] at hE
          have hP2 : Contract Try.prog 58 [limbo l, .int .u64 (idTx (txN i))] (.tup [.own false 22 ((l.eraseIdx k).map HeldD.av), heldC (txN i) i, .int .i64 (0 : Int)]) := hP
          clear hP hpk
          generalize pullOf (stayOf l c) (idTx (txN i)) = q at *
          generalize txN i = t at *
          have d47 : (((47 : Nat) : Int) != 47) = false := rfl
          have dgt : decide ((i : Int) > (c : Int)) = decide (c < i) := decide_congr (by omega)
          simp only [go_sem, seval, d1, r8]
          refine ex_call (by exact hT) ?_
          simp only [go_sem, seval]
          refine ex_call (by exact hID) ?_
          simp only [go_sem, seval]
          refine ex_call_dull (.cons (helds_map l true) (.cons (.refl _) .nil)) (by exact hP2) ?_
          simp only [go_sem, seval]
          refine ex_call (by exact hID) ?_
          simp only [go_sem, seval]
          refine ex_call_dull (.cons (dsl _ _ _) (.cons (.refl _) .nil)) (by exact hQ) ?_
          simp only [go_sem, seval, HeldD.av]
          refine ex_call (by exact c_law20_num _) ?_
          simp only [go_sem, seval, bne_self_eq_false, List.length_map, hel, d47]
          refine ex_call (by exact hE) ?_
          simp only [go_sem, seval]
          refine ex_call (by exact c_law20_num _) ?_
          simp only [go_sem, seval, hq, dgt, beq_self_eq_true]
          refine next (i + 1, true) _ (by dsimp only; omega) (by dsimp only; omega) ?_
          rw [← wi64_nat i (by omega)]
          simp only [ASt.keep, consIf, keepL, keepV, AV.isBot, List.contains_cons, List.contains_nil, Nat.reduceBEq, Bool.or_false, Bool.false_or, Bool.or_true, Bool.true_or, beq_self_eq_true, Bool.false_eq_true, ↓reduceIte, if_false, if_true]
          try rfl
        · have d1 : decide ((i : Int) < 48) = false := decide_eq_false (by omega)
          simp only [go_sem, seval, d1]
          refine ex_call (by exact c_law20_wakes) ?_
          simp only [go_sem, seval]
          refine finOne ?_ (fun _ e => by cases e)
          show resOf _ _ [.tmp 2] = _
          simp only [go_sem, seval]
theorem law_LimboBack (x : AV) (h : Ty ti 76 x) : Contract Try.prog 11 [x] (.bool true) := by
  obtain ⟨s, rfl, hs⟩ := ty_script h
  exact c_LimboBack s hs
end Go.Proofs.Ytpepfhbfooeoeaa.VA
end
section

end
