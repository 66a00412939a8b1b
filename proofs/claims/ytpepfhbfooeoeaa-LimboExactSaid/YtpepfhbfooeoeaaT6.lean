/- Transactions as bytes: the page's own; IDs. Limbo: rows of transactions with their blocks. Limbo: weights, what may be. tx.Copy. Limbo: the program's own. Limbo: what is made final. Scripts of the laws on limbo. Where an ID stands in a limbo, or would stand. slices.Delete at a row of structs: what it leaves. limbo.Pull. slices.Insert at the end of a row of structs. LimboFinals: the law's function answers true, if tarnlaw20.wakes does. tarnlaw20.wakes: one is pushed and pulled. A copy of a transaction: of new memory alone. slices.Insert at a row of structs: one more, at any place. slices.Insert at a row of structs: one more at any place, as a contract that keeps marks. limbo.Push: the limbo told is of new memory alone. Functions that write over the rows of what they are given: what is kept. Laws that write over what they were told: helps. pool.Helds: copies that share nothing with one another. pool.Helds as a contract with a colouring: each one's rows bear its own colour. tarnlaw0.Tx writes over a transaction's rows, and over nothing else. tarnlaw0.Txs, Limbo: they write over rows of transactions, and over nothing else. tarnlaw0.Limbo: it writes over a limbo's rows, and over nothing else. Limbos as data: places, one less. -/
import Derived.Test.YtpepfhbfooeoeaaT1
import Derived.Test.YtpepfhbfooeoeaaT2
import Derived.Test.YtpepfhbfooeoeaaT3
import Derived.Test.YtpepfhbfooeoeaaT4
import Derived.Test.YtpepfhbfooeoeaaT5
import Derived.Deep.RegionLaw
import Derived.Lib.SliceRun
import Derived.Shelf.Spec.SlicesInsertGrow
import Derived.WalkKit
import Derived.Laws.LoneSync
import Derived.Deep.LoopGhost
set_option linter.unusedSimpArgs false
set_option linter.unusedVariables false
section
namespace Go.Proofs.Ytpepfhbfooeoeaa.VA
set_option maxRecDepth 10000
set_option maxHeartbeats 8000000

theorem leaves_dull2 {α : Type} (s : α → List UInt8) (l : List α) (fr : Bool) : Dull (.agg [.bool true, .str [], .sl fr 3 (l.map fun a => .agg [.bool false, .str (s a), .sl false 3 []])]) (listI (l.map fun a => leaf (s a))).av := by
  rw [ItemD.av_eq]
  refine dulls_agg (.cons (.refl _) (.cons (.refl _) (.cons ?_ .nil)))
  refine .sl _ _ _ _ (by simp [ItemD.items]) fun j x y h e => ?_
  simp only [ItemD.items, List.getElem?_map, Option.map_eq_some_iff] at h e
  obtain ⟨a, h1, rfl⟩ := h
  obtain ⟨b, ⟨c, h2, rfl⟩, rfl⟩ := e
  rw [h1] at h2
  cases h2
  rw [ItemD.av_eq]
  exact .refl _
theorem tx_dull2 (t : TxD) (f1 f2 f3 : Bool) : Dull (.agg [.bool true, .str [], .sl f1 3 [numA t.frm.toNat, numA t.nonce.toNat, numA t.tip, numA t.cap, numA t.bcap, numA t.value, numA t.gas.toNat,
    .agg [.bool true, .str [], .sl f2 3 (t.hashes.map fun h => .agg [.bool false, .str (textOf h), .sl false 3 []])], .agg [.bool true, .str [], .sl f3 3 (t.blobs.map fun b => .agg [.bool false, .str b, .sl false 3 []])]]])
    (.agg [.bool (txItem t).list, .str (txItem t).text, .sl false 3 ((txItem t).items.map ItemD.av)]) := by
  have nn : ∀ n, (numI n).av = numA n := fun n => by rw [ItemD.av_eq]; rfl
  have e : (txItem t).items.map ItemD.av = [numA t.frm.toNat, numA t.nonce.toNat, numA t.tip, numA t.cap, numA t.bcap, numA t.value, numA t.gas.toNat, (hashI t).av, (blobI t).av] := by
    show List.map ItemD.av [_, _, _, _, _, _, _, _, _] = _
    simp only [List.map_cons, List.map_nil, nn]
  rw [e]
  refine dulls_agg (.cons (.refl _) (.cons (.refl _) (.cons ?_ .nil)))
  refine .sl _ _ _ _ rfl fun j x y h k => ?_
  match j, h, k with
  | 0, h, k => cases h; cases k; exact .refl _
  | 1, h, k => cases h; cases k; exact .refl _
  | 2, h, k => cases h; cases k; exact .refl _
  | 3, h, k => cases h; cases k; exact .refl _
  | 4, h, k => cases h; cases k; exact .refl _
  | 5, h, k => cases h; cases k; exact .refl _
  | 6, h, k => cases h; cases k; exact .refl _
  | 7, h, k => cases h; cases k; exact leaves_dull2 textOf t.hashes f2
  | 8, h, k => cases h; cases k; exact leaves_dull2 (fun b => b) t.blobs f3
  | j + 9, h, k => cases h
theorem c_ref7_Bytes (t : TxD) (h : t.ok) (hv : validTx t = true) : Contract Try.prog 74 [t.av] (.str (txRaw t)) := by
  have V := valid_of hv
  have h1 := V.one
  have h4 := V.four
  have hhl : t.hashes.length = t.blobs.length := by rw [V.hashes, List.length_map]
  have n0 := c_ref7_number t.frm V.frm.1 (by have := V.frm; omega)
  have n1 := c_ref7_number t.nonce V.nonce.1 (by have := V.nonce; omega)
  have n2 := c_ref1_Text t.tip h.tip
  have n3 := c_ref1_Text t.cap h.cap
  have n4 := c_ref1_Text t.bcap h.bcap
  have n5 := c_ref1_Text t.value h.value
  have n6 := c_ref7_number t.gas V.gas.1 (by have := V.gas; omega)
  unfold u at n2 n3 n4 n5
  have nb := c_ref4_Item (txItem t) (tx_itok h V)
  have hmay := tx_may h V
  rw [hmay, if_pos rfl, (txItem t).av_eq] at nb
  have leafD : ∀ (s : List UInt8), AV.agg [.bool false, .str s, .sl false 3 []] = (leaf s).av := fun s => by rw [ItemD.av_eq]; rfl
  refine contract_of (C := cf 82 [1, 2, 3, 4, 5, 6, 7, 15, 34] (fun _ => [])) (cf_ok _ _ _) (fn := Try.f74) Try.func74 (by kernel_rfl) rfl (by kernel_rfl) (by simp [cf]) (plain1 t.plain) (by decide) (noCell (by kernel_rfl)) ?_
  simp only [go_sem, seval, TxD.av, TxD.cells, ints, strs]
  obtain ⟨cs, hcs⟩ : ∃ cs : List AV, cs = [.int .i64 t.frm, .int .i64 t.nonce, .int .u64 (lim t.tip 0), .int .u64 (lim t.tip 1), .int .u64 (lim t.tip 2), .int .u64 (lim t.tip 3),
  .int .u64 (lim t.cap 0), .int .u64 (lim t.cap 1), .int .u64 (lim t.cap 2), .int .u64 (lim t.cap 3), .int .u64 (lim t.bcap 0), .int .u64 (lim t.bcap 1), .int .u64 (lim t.bcap 2), .int .u64 (lim t.bcap 3),
  .int .u64 (lim t.value 0), .int .u64 (lim t.value 1), .int .u64 (lim t.value 2), .int .u64 (lim t.value 3), .int .i64 t.gas, .sl false 1 (t.hashes.map (AV.int .u64)), .sl false 1 (t.blobs.map AV.str)] := ⟨_, rfl⟩
  have el : ∀ s : List UInt8, AV.agg [.bool false, .str s, .sl false 3 []] = .agg [.bool false, .str s, .sl false 3 []] := fun _ => rfl
  refine ex_iter [1, 3, 4, 5] (fun i : Nat => ⟨[(1, .var 1 0), (3, .var 3 0), (4, .var 4 0), (5, .int .i64 i)],
      [(1, cs), (3, [.bool true, .str [], repI 3 i ((t.hashes.take i).map fun h => .agg [.bool false, .str (textOf h), .sl false 3 []])]), (4, [.bool true, .str [], .ext nilP])], []⟩)
      (fun i => i ≤ t.hashes.length) (fun i => t.hashes.length - i) 0 ?_ ?_ ?_
  · simp only [ASt.keep, consIf, keepL, keepV, AV.isBot, List.contains_cons, List.contains_nil, Nat.reduceBEq, Bool.or_false, Bool.false_or, Bool.or_true, Bool.true_or, beq_self_eq_true, Bool.false_eq_true, ↓reduceIte, if_false, if_true]
    rw [hcs]
    rfl
  · exact Nat.zero_le _
  · intro r i hi next
    simp only [go_sem, seval, hcs, List.length_map]
    refine ex_br (fun hlt => ?_) (fun hlt => ?_)
    · have hlt : i < t.hashes.length := by simpa using hlt
      obtain ⟨hh, eh⟩ : ∃ hh, t.hashes[i]? = some hh := ⟨_, List.getElem?_eq_getElem (by omega)⟩
      have s1 : (t.hashes.take i).map (fun h => AV.agg [.bool false, .str (textOf h), .sl false 3 []]) ++ [.agg [.bool false, .str (textOf hh), .sl false 3 []]] = (t.hashes.take (i + 1)).map fun h => .agg [.bool false, .str (textOf h), .sl false 3 []] := take_snoc (fun h => AV.agg [.bool false, .str (textOf h), .sl false 3 []]) eh
      cases i with
      | zero =>
        simp only [go_sem, seval, repI]
        refine ex_draw [12] [] (.quiet 0 (.quiet 1 (.quiet 2 (.quiet 3 (.quiet 4 (.quiet 5 (.quiet 6 (.one 7 (.one 8 (.one 9 (.one 10 (.quiet 11 (.unlock (.one 12 (.fin))))))))))))))) (by kernel_rfl) ?_
        simp only [go_sem, seval, repI, List.length_map, List.getElem?_map, eh, Int.toNat_natCast, Int.cast_ofNat_Int]
        repeat with_reducible refine And.intro (by first | omega | (simp only [List.length_cons, List.length_append, List.length_nil, List.length_map, List.length_take, List.length_drop, List.length_set]; omega)) ?_
        try simp only [go_sem, seval, eh, Int.toNat_natCast, List.getElem?_map]
        refine ex_call (by exact c_ref4_MarkText hh) ?_
        simp only [go_sem, seval]
        refine ex_call (by exact c_ref7_text _) ?_
        simp only [go_sem, seval, repI]
        repeat with_reducible refine And.intro (by first | omega | (simp only [List.length_cons, List.length_append, List.length_nil, List.length_map, List.length_take, List.length_drop, List.length_set]; omega)) ?_
        refine next (0 + 1) _ (by omega) (by omega) ?_
        rw [← wi64_nat 0 (by omega), ← s1, hcs]
        simp only [ASt.keep, consIf, keepL, keepV, AV.isBot, List.contains_cons, List.contains_nil, Nat.reduceBEq, Bool.or_false, Bool.false_or, Bool.or_true, Bool.true_or, beq_self_eq_true, Bool.false_eq_true, ↓reduceIte, if_false, if_true]
        rfl
      | succ i =>
        simp only [go_sem, seval, repI]
        refine ex_draw [12] [] (.quiet 0 (.quiet 1 (.quiet 2 (.quiet 3 (.quiet 4 (.quiet 5 (.quiet 6 (.one 7 (.one 8 (.one 9 (.one 10 (.quiet 11 (.unlock (.one 12 (.fin))))))))))))))) (by kernel_rfl) ?_
        simp only [go_sem, seval, repI, List.length_map, List.getElem?_map, eh, Int.toNat_natCast]
        repeat with_reducible refine And.intro (by first | omega | (simp only [List.length_cons, List.length_append, List.length_nil, List.length_map, List.length_take, List.length_drop, List.length_set]; omega)) ?_
        try simp only [go_sem, seval, eh, Int.toNat_natCast, List.getElem?_map]
        refine ex_call (by exact c_ref4_MarkText hh) ?_
        simp only [go_sem, seval]
        refine ex_call (by exact c_ref7_text _) ?_
        simp only [go_sem, seval, repI, List.length_map]
        repeat with_reducible refine And.intro (by first | omega | (simp only [List.length_cons, List.length_append, List.length_nil, List.length_map, List.length_take, List.length_drop, List.length_set]; omega)) ?_
        refine next (i + 1 + 1) _ (by omega) (by omega) ?_
        rw [← wi64_nat (i + 1) (by omega), ← s1, hcs]
        simp only [ASt.keep, consIf, keepL, keepV, AV.isBot, List.contains_cons, List.contains_nil, Nat.reduceBEq, Bool.or_false, Bool.false_or, Bool.or_true, Bool.true_or, beq_self_eq_true, Bool.false_eq_true, ↓reduceIte, if_false, if_true]
        rfl
    · have hge : i = t.hashes.length := by simp at hlt; omega
      subst hge
      have p1 := repI_own (sz := 3) (i := t.hashes.length) (es := t.hashes.map fun h => .agg [.bool false, .str (textOf h), .sl false 3 []]) (by omega)
      rw [List.take_length, p1]
      simp only [go_sem, seval]
      refine ex_iter [1, 3, 4, 6] (fun i : Nat => ⟨[(1, .var 1 0), (3, .var 3 0), (4, .var 4 0), (6, .int .i64 i)],
          [(1, cs), (3, [.bool true, .str [], .own false 3 (t.hashes.map fun h => .agg [.bool false, .str (textOf h), .sl false 3 []])]), (4, [.bool true, .str [], repI 3 i ((t.blobs.take i).map fun b => .agg [.bool false, .str b, .sl false 3 []])])], []⟩)
          (fun i => i ≤ t.blobs.length) (fun i => t.blobs.length - i) 0 ?_ ?_ ?_
      · simp only [ASt.keep, consIf, keepL, keepV, AV.isBot, List.contains_cons, List.contains_nil, Nat.reduceBEq, Bool.or_false, Bool.false_or, Bool.or_true, Bool.true_or, beq_self_eq_true, Bool.false_eq_true, ↓reduceIte, if_false, if_true]
        rw [hcs]
        rfl
      · exact Nat.zero_le _
      · intro r2 i hi2 next2
        simp only [go_sem, seval, hcs, List.length_map]
        refine ex_br (fun hlt => ?_) (fun hlt => ?_)
        · have hlt : i < t.blobs.length := by simpa using hlt
          obtain ⟨b, eb⟩ : ∃ b, t.blobs[i]? = some b := ⟨_, List.getElem?_eq_getElem (by omega)⟩
          have s1 : (t.blobs.take i).map (fun b => AV.agg [.bool false, .str b, .sl false 3 []]) ++ [.agg [.bool false, .str b, .sl false 3 []]] = (t.blobs.take (i + 1)).map fun b => .agg [.bool false, .str b, .sl false 3 []] := take_snoc (fun b => AV.agg [.bool false, .str b, .sl false 3 []]) eb
          cases i with
          | zero =>
            simp only [go_sem, seval, repI]
            refine ex_draw [11] [] (.quiet 0 (.quiet 1 (.quiet 2 (.quiet 3 (.quiet 4 (.quiet 5 (.quiet 6 (.one 7 (.one 8 (.one 9 (.quiet 10 (.unlock (.one 11 (.fin)))))))))))))) (by kernel_rfl) ?_
            simp only [go_sem, seval, repI, List.length_map, List.getElem?_map, eb, Int.toNat_natCast, Int.cast_ofNat_Int]
            repeat with_reducible refine And.intro (by first | omega | (simp only [List.length_cons, List.length_append, List.length_nil, List.length_map, List.length_take, List.length_drop, List.length_set]; omega)) ?_
            try simp only [go_sem, seval, eb, Int.toNat_natCast, List.getElem?_map]
            refine ex_call (by exact c_ref7_text _) ?_
            simp only [go_sem, seval, repI]
            repeat with_reducible refine And.intro (by first | omega | (simp only [List.length_cons, List.length_append, List.length_nil, List.length_map, List.length_take, List.length_drop, List.length_set]; omega)) ?_
            refine next2 (0 + 1) _ (by omega) (by omega) ?_
            rw [← wi64_nat 0 (by omega), ← s1, hcs]
            simp only [ASt.keep, consIf, keepL, keepV, AV.isBot, List.contains_cons, List.contains_nil, Nat.reduceBEq, Bool.or_false, Bool.false_or, Bool.or_true, Bool.true_or, beq_self_eq_true, Bool.false_eq_true, ↓reduceIte, if_false, if_true]
            rfl
          | succ i =>
            simp only [go_sem, seval, repI]
            refine ex_draw [11] [] (.quiet 0 (.quiet 1 (.quiet 2 (.quiet 3 (.quiet 4 (.quiet 5 (.quiet 6 (.one 7 (.one 8 (.one 9 (.quiet 10 (.unlock (.one 11 (.fin)))))))))))))) (by kernel_rfl) ?_
            simp only [go_sem, seval, repI, List.length_map, List.getElem?_map, eb, Int.toNat_natCast]
            repeat with_reducible refine And.intro (by first | omega | (simp only [List.length_cons, List.length_append, List.length_nil, List.length_map, List.length_take, List.length_drop, List.length_set]; omega)) ?_
            try simp only [go_sem, seval, eb, Int.toNat_natCast, List.getElem?_map]
            refine ex_call (by exact c_ref7_text _) ?_
            simp only [go_sem, seval, repI, List.length_map]
            repeat with_reducible refine And.intro (by first | omega | (simp only [List.length_cons, List.length_append, List.length_nil, List.length_map, List.length_take, List.length_drop, List.length_set]; omega)) ?_
            refine next2 (i + 1 + 1) _ (by omega) (by omega) ?_
            rw [← wi64_nat (i + 1) (by omega), ← s1, hcs]
            simp only [ASt.keep, consIf, keepL, keepV, AV.isBot, List.contains_cons, List.contains_nil, Nat.reduceBEq, Bool.or_false, Bool.false_or, Bool.or_true, Bool.true_or, beq_self_eq_true, Bool.false_eq_true, ↓reduceIte, if_false, if_true]
            rfl
        · have hge : i = t.blobs.length := by simp at hlt; omega
          subst hge
          have p2 := repI_own (sz := 3) (i := t.blobs.length) (es := t.blobs.map fun b => .agg [.bool false, .str b, .sl false 3 []]) (by omega)
          rw [List.take_length, p2]
          simp only [go_sem, seval]
          refine ex_draw [] [] (.quiet 0 (.quiet 1 (.quiet 3 (.quiet 4 (.quiet 6 (.quiet 7 (.quiet 10 (.quiet 11 (.quiet 14 (.quiet 15 (.quiet 18 (.quiet 19 (.quiet 22 (.quiet 23 (.quiet 25 (.quiet 26 (.one 2 (.one 5 (.one 8 (.one 9 (.one 12 (.one 13 (.one 16 (.one 17 (.one 20 (.one 21 (.one 24 (.one 27 (.one 28 (.one 29 (.quiet 30 (.quiet 31 (.quiet 32 (.quiet 33 (.quiet 34 (.fin)))))))))))))))))))))))))))))))))))) (by kernel_rfl) ?_
          simp only [go_sem, seval]
          refine ex_call (by exact n0) ?_
          simp only [go_sem, seval]
          refine ex_call (by exact n1) ?_
          simp only [go_sem, seval]
          refine ex_call (by exact n2) ?_
          simp only [go_sem, seval]
          refine ex_call (by exact c_ref7_text _) ?_
          simp only [go_sem, seval]
          refine ex_call (by exact n3) ?_
          simp only [go_sem, seval]
          refine ex_call (by exact c_ref7_text _) ?_
          simp only [go_sem, seval]
          refine ex_call (by exact n4) ?_
          simp only [go_sem, seval]
          refine ex_call (by exact c_ref7_text _) ?_
          simp only [go_sem, seval]
          refine ex_call (by exact n5) ?_
          simp only [go_sem, seval]
          refine ex_call (by exact c_ref7_text _) ?_
          simp only [go_sem, seval]
          refine ex_call (by exact n6) ?_
          simp only [go_sem, seval]
          refine ex_call_dull (.cons (tx_dull2 t _ _ _) .nil) (by exact nb) ?_
          simp only [go_sem, seval]
          refine finOne ?_ (fun _ e => by cases e)
          show resOf _ _ [.tmp 2] = _
          simp only [go_sem, seval]
          rfl
def idTx (t : TxD) : Int := markOf (txRaw t)
theorem c_ref7_ID (t : TxD) (h : t.ok) (hv : validTx t = true) : Contract Try.prog 57 [t.av] (.int .u64 (idTx t)) := by
  have hb := c_ref7_Bytes t h hv
  have hl := txRaw_len h (valid_of hv)
  unfold TxD.av TxD.cells ints strs at hb
  refine contract_of (C := cf 6 [1, 2] (fun _ => [])) (cf_ok _ _ _) (fn := Try.f57) Try.func57 (by kernel_rfl) rfl (by kernel_rfl) (by simp [cf]) (plain1 t.plain) (by decide) (noCell (by kernel_rfl)) ?_
  simp only [go_sem, seval, TxD.av, TxD.cells, ints, strs]
  refine ex_call (by exact hb) ?_
  simp only [go_sem, seval]
  refine ex_call (by exact c_ref4_Mark (txRaw t) (by omega)) ?_
  simp only [go_sem, seval]
  refine finOne ?_ (fun _ e => by cases e)
  show resOf _ _ [.tmp 2] = _
  simp only [go_sem, seval]
  rfl
theorem c_tx_ID (t : TxD) (h : t.ok) : Contract Try.prog 93 [t.av] (.tup [.int .u64 (if validTx t = true then idTx t else 0), .int .i64 (if validTx t = true then 0 else 1)]) := by
  have hb := c_tx_Bytes t h
  unfold bytesTx at hb
  unfold TxD.av TxD.cells ints strs at hb
  cases hv : validTx t with
  | false =>
    rw [hv] at hb
    refine contract_of (C := cf 16 [1, 2, 3, 4, 5, 12] (fun _ => [])) (cf_ok _ _ _) (fn := Try.f93) Try.func93 (by kernel_rfl) rfl (by kernel_rfl) (by simp [cf]) (plain1 t.plain) (by decide) (noCell (by kernel_rfl)) ?_
    simp only [go_sem, seval, TxD.av, TxD.cells, ints, strs]
    refine ex_call (by exact hb) ?_
    simp only [go_sem, seval]
    refine finTup ?_
    show resOf _ _ [.tmp 2, .tmp 3] = _
    simp only [go_sem, seval]
  | true =>
    have hl := txRaw_len h (valid_of hv)
    rw [hv] at hb
    refine contract_of (C := cf 16 [1, 2, 3, 4, 5, 12] (fun _ => [])) (cf_ok _ _ _) (fn := Try.f93) Try.func93 (by kernel_rfl) rfl (by kernel_rfl) (by simp [cf]) (plain1 t.plain) (by decide) (noCell (by kernel_rfl)) ?_
    simp only [go_sem, seval, TxD.av, TxD.cells, ints, strs]
    refine ex_call (by exact hb) ?_
    simp only [go_sem, seval]
    refine ex_call (by exact c_mark_Mark (txRaw t) (by omega)) ?_
    simp only [go_sem, seval]
    refine finTup ?_
    show resOf _ _ [.tmp 2, .tmp 3] = _
    simp only [go_sem, seval]
    rfl
end Go.Proofs.Ytpepfhbfooeoeaa.VA
end
section
namespace Go.Proofs.Ytpepfhbfooeoeaa.VA
set_option maxRecDepth 10000
set_option maxHeartbeats 16000000

structure HeldD where
  t : TxD
  n : Int
  deriving DecidableEq
abbrev heldC (a : TxD) (n : Int) : AV := .agg [.int .i64 a.frm, .int .i64 a.nonce, .int .u64 (lim a.tip 0), .int .u64 (lim a.tip 1), .int .u64 (lim a.tip 2), .int .u64 (lim a.tip 3), .int .u64 (lim a.cap 0), .int .u64 (lim a.cap 1), .int .u64 (lim a.cap 2), .int .u64 (lim a.cap 3), .int .u64 (lim a.bcap 0), .int .u64 (lim a.bcap 1), .int .u64 (lim a.bcap 2), .int .u64 (lim a.bcap 3), .int .u64 (lim a.value 0), .int .u64 (lim a.value 1), .int .u64 (lim a.value 2), .int .u64 (lim a.value 3), .int .i64 a.gas, .sl false 1 (a.hashes.map (AV.int .u64)), .sl false 1 (a.blobs.map AV.str), .int .i64 n]
def HeldD.av (h : HeldD) : AV := heldC h.t h.n
structure HeldD.ok (h : HeldD) : Prop where
  t : h.t.ok
  n : -9223372036854775808 ≤ h.n ∧ h.n ≤ 9223372036854775807
theorem held_plain (h : HeldD) : Plain h.av := .agg _ fun c hc => by
  have hp : ∀ c ∈ h.t.cells ++ [.int .i64 h.n], Plain c := fun c hc => by
    rcases List.mem_append.1 hc with h1 | h1
    · have := h.t.plain
      cases this with
      | agg _ hh => exact hh c h1
    · cases List.mem_singleton.1 h1
      exact .int _ _
  exact hp c hc
def limbo (l : List HeldD) : AV := .sl false 22 (l.map HeldD.av)
theorem limbo_plain (l : List HeldD) : Plain (limbo l) := .sl 22 _ fun c hc => by
  obtain ⟨s, _, rfl⟩ := List.mem_map.1 hc
  exact held_plain s
theorem c_CopyHeld (h : HeldD) (hok : h.ok) : Contract Try.prog 98 [heldC h.t h.n] h.av := by
  have hc := r_Copy h.t hok.t
  refine contract_of (C := cf 10 [1, 2, 3] (fun _ => [])) (cf_ok _ _ _) (fn := Try.f98) Try.func98 (by kernel_rfl) rfl (by kernel_rfl) (by simp [cf]) (plain1 (held_plain h)) (by decide) (cellsOk (by kernel_rfl)) ?_
  simp only [go_sem, seval, HeldD.av]
  refine ex_call (by exact hc) ?_
  simp only [go_sem, seval, HeldD.av]
  refine finOne ?_ (fun _ e => by cases e)
  show resOf _ _ [.cell 2 90] = _
  simp only [go_sem, seval, HeldD.av]
theorem c_EqHeld (a b : HeldD) (ha : a.ok) (hb : b.ok) : Contract Try.prog 59 [heldC a.t a.n, heldC b.t b.n] (.bool (decide (a = b))) := by
  have hc := r_Eq a.t b.t ha.t hb.t
  have e : decide (a = b) = (decide (a.t = b.t) && (a.n == b.n)) := by
    rw [Bool.eq_iff_iff]
    simp only [decide_eq_true_eq, Bool.and_eq_true, beq_iff_eq]
    constructor
    · rintro rfl; exact ⟨rfl, rfl⟩
    · obtain ⟨t, n⟩ := a
      obtain ⟨t2, n2⟩ := b
      rintro ⟨rfl, rfl⟩; rfl
  rw [e]
  refine contract_of (C := cf 17 [2, 3, 4] (fun _ => [])) (cf_ok _ _ _) (fn := Try.f59) Try.func59 (by kernel_rfl) rfl (by kernel_rfl) (by simp [cf]) (plain2 (held_plain a) (held_plain b)) (by decide) (noCell (by kernel_rfl)) ?_
  simp only [go_sem, seval, HeldD.av]
  refine ex_call (by exact hc) ?_
  cases hd : decide (a.t = b.t) with
  | true =>
    simp only [go_sem, seval]
    refine finOne ?_ (fun _ e => by cases e)
    show resOf _ _ [.tmp 4] = _
    simp only [go_sem, seval]
  | false =>
    simp only [go_sem, seval]
    refine finOne ?_ (fun _ e => by cases e)
    show resOf _ _ [.tmp 4] = _
    simp only [go_sem, seval]
theorem c_CopyLimbo (l : List HeldD) (hl : l.length * 208 ≤ reachBytes) (hok : ∀ a ∈ l, a.ok) : Contract Try.prog 50 [limbo l] (.own false 22 (l.map HeldD.av)) := by
  unfold reachBytes at hl
  refine contract_of (C := cf 20 [0, 2, 3, 4, 8] (fun _ => [])) (cf_ok _ _ _) (fn := Try.f50) Try.func50 (by kernel_rfl) rfl (by kernel_rfl) (by simp [cf]) (plain1 (limbo_plain l)) (by decide) (noCell (by kernel_rfl)) ?_
  simp only [go_sem, seval, limbo]
  refine ex_iter [0, 3, 4] (fun i : Nat => ⟨[(0, .sl false 22 (l.map HeldD.av)), (3, .own false 22 ((l.take i).map HeldD.av)), (4, .int .i64 i)], [], []⟩) (fun i => i ≤ l.length) (fun i => l.length - i) 0 ?_ ?_ ?_
  · simp only [ASt.keep, consIf, keepL, keepV, AV.isBot, List.contains_cons, List.contains_nil, Nat.reduceBEq, Bool.or_false, Bool.false_or, Bool.or_true, Bool.true_or, beq_self_eq_true, Bool.false_eq_true, ↓reduceIte, if_false, if_true]
    rfl
  · exact Nat.zero_le _
  · intro n i hi next
    simp only [go_sem, seval, List.length_map]
    refine ex_br (fun h => ?_) (fun h => ?_)
    · have hlt : i < l.length := by simpa using h
      obtain ⟨x, ex⟩ : ∃ x, l[i]? = some x := ⟨_, List.getElem?_eq_getElem hlt⟩
      have hs : (l.take i).map HeldD.av ++ [x.av] = (l.take (i + 1)).map HeldD.av := take_snoc HeldD.av ex
      simp only [go_sem, seval, List.length_map, List.getElem?_map, ex, Int.toNat_natCast, HeldD.av]
      repeat with_reducible refine And.intro (by first | omega | (simp only [List.length_cons, List.length_append, List.length_nil, List.length_map, List.length_take, List.length_drop, List.length_set]; omega)) ?_
      refine ex_call (by exact c_CopyHeld x (hok x (List.mem_of_getElem? ex))) ?_
      simp only [go_sem, seval, List.length_map, HeldD.av]
      repeat with_reducible refine And.intro (by first | omega | (simp only [List.length_cons, List.length_append, List.length_nil, List.length_map, List.length_take, List.length_drop, List.length_set]; omega)) ?_
      refine next (i + 1) _ (by omega) (by omega) ?_
      rw [← wi64_nat i (by omega), ← hs]
      simp only [ASt.keep, consIf, keepL, keepV, AV.isBot, List.contains_cons, List.contains_nil, Nat.reduceBEq, Bool.or_false, Bool.false_or, Bool.or_true, Bool.true_or, beq_self_eq_true, Bool.false_eq_true, ↓reduceIte, if_false, if_true]
      try rfl
    · have hge : i = l.length := by simp at h; omega
      subst hge
      simp only [go_sem, seval, List.take_length]
      refine finOne ?_ (fun _ e => by cases e)
      show resOf _ _ [.tmp 2] = _
      simp only [go_sem, seval]
theorem c_EqLimbo (a b : List HeldD) (ha : a.length * 208 ≤ reachBytes) (hb : b.length * 208 ≤ reachBytes) (hao : ∀ t ∈ a, t.ok) (hbo : ∀ t ∈ b, t.ok) : Contract Try.prog 54 [limbo a, limbo b] (.bool (decide (a = b))) := by
  unfold reachBytes at ha hb
  refine contract_of (C := cf 27 [0, 1, 4, 5, 10, 14, 26] (fun _ => [])) (cf_ok _ _ _) (fn := Try.f54) Try.func54 (by kernel_rfl) rfl (by kernel_rfl) (by simp [cf]) (plain2 (limbo_plain a) (limbo_plain b)) (by decide) (noCell (by kernel_rfl)) ?_
  simp only [go_sem, seval, limbo, List.length_map]
  refine ex_br (fun h => ?_) (fun h => ?_)
  · have hne : a ≠ b := by
      rintro rfl
      simp at h
    rw [decide_eq_false hne]
    simp only [go_sem, seval]
    refine finOne ?_ (fun _ e => by cases e)
    show resOf _ _ [.tmp 4] = _
    simp only [go_sem, seval]
  · have hl : a.length = b.length := by simp at h; omega
    simp only [go_sem, seval]
    refine ex_iter [0, 1, 5] (fun i : Nat => ⟨[(0, .sl false 22 (a.map HeldD.av)), (1, .sl false 22 (b.map HeldD.av)), (5, .int .i64 i)], [], []⟩) (fun i => i ≤ a.length ∧ a.take i = b.take i) (fun i => a.length - i) 0 ?_ ?_ ?_
    · simp only [ASt.keep, consIf, keepL, keepV, AV.isBot, List.contains_cons, List.contains_nil, Nat.reduceBEq, Bool.or_false, Bool.false_or, Bool.or_true, Bool.true_or, beq_self_eq_true, Bool.false_eq_true, ↓reduceIte, if_false, if_true]
      rfl
    · exact ⟨Nat.zero_le _, by simp⟩
    · rintro n i ⟨hi, ht⟩ next
      simp only [go_sem, seval, List.length_map]
      refine ex_br (fun h => ?_) (fun h => ?_)
      · have hlt : i < a.length := by simpa using h
        obtain ⟨x, ex⟩ : ∃ x, a[i]? = some x := ⟨_, List.getElem?_eq_getElem hlt⟩
        obtain ⟨y, ey⟩ : ∃ y, b[i]? = some y := ⟨_, List.getElem?_eq_getElem (by omega)⟩
        simp only [go_sem, seval]
        refine ex_draw [] [] (.quiet 0 (.quiet 1 (.quiet 2 (.quiet 3 (.quiet 4 (.quiet 5 (.quiet 6 (.quiet 7 (.one 8 (.quiet 9 (.fin))))))))))) (by kernel_rfl) ?_
        simp only [go_sem, seval, List.length_map, List.getElem?_map, ex, ey, Int.toNat_natCast, HeldD.av]
        repeat with_reducible refine And.intro (by first | omega | (simp only [List.length_cons, List.length_append, List.length_nil, List.length_map, List.length_take, List.length_drop, List.length_set]; omega)) ?_
        refine ex_call (by exact c_EqHeld x y (hao x (List.mem_of_getElem? ex)) (hbo y (List.mem_of_getElem? ey))) ?_
        cases hxy : decide (x = y)
        · rw [decide_eq_false (ne_of_get ex ey (of_decide_eq_false hxy))]
          simp only [go_sem, seval]
          refine finOne ?_ (fun _ e => by cases e)
          show resOf _ _ [.tmp 4] = _
          simp only [go_sem, seval]
        · have hxy := of_decide_eq_true hxy
          subst hxy
          simp only [go_sem, seval]
          refine next (i + 1) _ ⟨by omega, take_eq_succ ht ex ey⟩ (by omega) ?_
          rw [← wi64_nat i (by omega)]
          simp only [ASt.keep, consIf, keepL, keepV, AV.isBot, List.contains_cons, List.contains_nil, Nat.reduceBEq, Bool.or_false, Bool.false_or, Bool.or_true, Bool.true_or, beq_self_eq_true, Bool.false_eq_true, ↓reduceIte, if_false, if_true]
      · have hge : i = a.length := by simp at h; omega
        rw [decide_eq_true (eq_of_takes hl hge ht)]
        simp only [go_sem, seval]
        refine finOne ?_ (fun _ e => by cases e)
        show resOf _ _ [.tmp 4] = _
        simp only [go_sem, seval]
end Go.Proofs.Ytpepfhbfooeoeaa.VA
end
section
namespace Go.Proofs.Ytpepfhbfooeoeaa.VA
set_option maxRecDepth 10000
set_option maxHeartbeats 16000000

theorem c_Num0 (x m : Int) : Contract Try.prog 46 [.int .i64 x, .int .i64 m] (.bool (decide (0 ≤ x) && decide (x ≤ m))) := by
  refine contract_of (C := cf 12 [0, 1, 4] (fun _ => [])) (cf_ok _ _ _) (fn := Try.f46) Try.func46 (by kernel_rfl) rfl (by kernel_rfl) (by simp [cf]) (plain2 (.int _ _) (.int _ _)) (by decide) (noCell (by kernel_rfl)) ?_
  simp only [go_sem, seval]
  cases h : decide (0 ≤ x) with
  | true =>
    have h1 : decide (x ≥ 0) = true := h
    simp only [go_sem, seval, h1]
    refine finOne ?_ (fun _ e => by cases e)
    show resOf _ _ [.tmp 4] = _
    simp only [go_sem, seval]
  | false =>
    have h1 : decide (x ≥ 0) = false := h
    simp only [go_sem, seval, h1]
    refine finOne ?_ (fun _ e => by cases e)
    show resOf _ _ [.tmp 4] = _
    simp only [go_sem, seval]
def heldOk (h : HeldD) : Bool := validTx h.t && (decide (0 ≤ h.n) && decide (h.n ≤ 1099511627776))
def heldAfter (l : List HeldD) (h : HeldD) : Nat → Bool
  | 0 => true
  | k + 1 => match l[k]? with
    | some g => decide (idTx g.t < idTx h.t)
    | none => true
def heldAt (l : List HeldD) (k : Nat) : Bool := match l[k]? with
  | some h => heldOk h && heldAfter l h k
  | none => true
def limboOk (l : List HeldD) : Bool := decide (l.length ≤ 48) && (List.range l.length).all (heldAt l)
theorem heldAt_get {l : List HeldD} {k : Nat} {h : HeldD} (e : l[k]? = some h) : heldAt l k = (heldOk h && heldAfter l h k) := by
  unfold heldAt; rw [e]
theorem limbo_no {l : List HeldD} {k : Nat} (hk : k < l.length) (h : heldAt l k = false) : limboOk l = false := by
  unfold limboOk
  rw [Bool.and_eq_false_iff]
  refine .inr ?_
  rw [Bool.eq_false_iff]
  intro e
  have := List.all_eq_true.1 e k (List.mem_range.2 hk)
  rw [h] at this
  cases this
theorem limbo_yes {l : List HeldD} (h : ∀ k < l.length, heldAt l k = true) : limboOk l = decide (l.length ≤ 48) := by
  unfold limboOk
  rw [List.all_eq_true.2 fun k hk => h k (List.mem_range.1 hk), Bool.and_true]
theorem c_ref16_Limbo (l : List HeldD) (hl : l.length * 208 ≤ reachBytes) (hok : ∀ a ∈ l, a.ok) : Contract Try.prog 51 [limbo l] (.bool (limboOk l)) := by
  unfold reachBytes at hl
  refine contract_of (C := cf 49 [0, 2, 3, 7, 45] (fun _ => [])) (cf_ok _ _ _) (fn := Try.f51) Try.func51 (by kernel_rfl) rfl (by kernel_rfl) (by simp [cf]) (plain1 (limbo_plain l)) (by decide) (noCell (by kernel_rfl)) ?_
  simp only [go_sem, seval, limbo]
  refine ex_iter [0, 3] (fun i : Nat => ⟨[(0, .sl false 22 (l.map HeldD.av)), (3, .int .i64 i)], [], []⟩) (fun i => i ≤ l.length ∧ ∀ k < i, heldAt l k = true) (fun i => l.length - i) 0 ?_ ?_ ?_
  · simp only [ASt.keep, consIf, keepL, keepV, AV.isBot, List.contains_cons, List.contains_nil, Nat.reduceBEq, Bool.or_false, Bool.false_or, Bool.or_true, Bool.true_or, beq_self_eq_true, Bool.false_eq_true, ↓reduceIte, if_false, if_true]
    rfl
  · exact ⟨Nat.zero_le _, fun k hk => absurd hk (Nat.not_lt_zero k)⟩
  · rintro n i ⟨hi, hall⟩ next
    simp only [go_sem, seval, List.length_map]
    refine ex_br (fun h => ?_) (fun h => ?_)
    · have hlt : i < l.length := by simpa using h
      obtain ⟨x, ex⟩ : ∃ x, l[i]? = some x := ⟨_, List.getElem?_eq_getElem hlt⟩
      have hx := hok x (List.mem_of_getElem? ex)
      have hat := heldAt_get ex
      simp only [go_sem, seval]
      refine ex_draw [] [] (.quiet 0 (.quiet 1 (.quiet 2 (.quiet 3 (.quiet 4 (.one 5 (.quiet 6 (.quiet 7 (.quiet 8 (.quiet 9 (.quiet 10 (.quiet 11 (.quiet 12 (.one 13 (.quiet 14 (.quiet 15 (.quiet 16 (.quiet 17 (.quiet 18 (.quiet 19 (.quiet 20 (.quiet 21 (.quiet 22 (.quiet 23 (.quiet 24 (.quiet 25 (.quiet 27 (.quiet 28 (.quiet 29 (.quiet 30 (.quiet 31 (.one 26 (.one 32 (.quiet 33 (.quiet 34 (.quiet 35 (.fin))))))))))))))))))))))))))))))))))))) (by kernel_rfl) ?_
      simp only [go_sem, seval, List.length_map, List.getElem?_map, ex, Int.toNat_natCast, HeldD.av]
      repeat with_reducible refine And.intro (by first | omega | (simp only [List.length_cons, List.length_append, List.length_nil, List.length_map, List.length_take, List.length_drop, List.length_set]; omega)) ?_
      try simp only [go_sem, seval, List.getElem?_map, ex, Int.toNat_natCast, HeldD.av]
      refine ex_call (by exact c_ref7_Tx x.t hx.t) ?_
      cases hv : validTx x.t with
      | false =>
        rw [limbo_no hlt (by rw [hat]; unfold heldOk; rw [hv]; rfl)]
        simp only [go_sem, seval]
        refine finOne ?_ (fun _ e => by cases e)
        show resOf _ _ [.tmp 2] = _
        simp only [go_sem, seval]
      | true =>
        simp only [go_sem, seval, List.length_map, List.getElem?_map, ex, Int.toNat_natCast, HeldD.av]
        repeat with_reducible refine And.intro (by first | omega | (simp only [List.length_cons, List.length_append, List.length_nil, List.length_map, List.length_take, List.length_drop, List.length_set]; omega)) ?_
        try simp only [go_sem, seval, List.getElem?_map, ex, Int.toNat_natCast, HeldD.av]
        refine ex_call (by exact c_Num0 x.n 1099511627776) ?_
        cases hr : (decide (0 ≤ x.n) && decide (x.n ≤ 1099511627776)) with
        | false =>
          rw [limbo_no hlt (by rw [hat]; unfold heldOk; rw [hv, hr]; rfl)]
          simp only [go_sem, seval]
          refine finOne ?_ (fun _ e => by cases e)
          show resOf _ _ [.tmp 2] = _
          simp only [go_sem, seval]
        | true =>
          have hh : heldOk x = true := by unfold heldOk; rw [hv, hr]; rfl
          have hID := c_ref7_ID x.t hx.t hv
          rcases i with _ | j
          · simp only [go_sem, seval]
            refine next (0 + 1) _ ⟨by omega, fun k hk => by
              have : k = 0 := by omega
              subst this; rw [hat, hh]; rfl⟩ (by omega) ?_
            rw [← wi64_nat 0 (by omega)]
            simp only [ASt.keep, consIf, keepL, keepV, AV.isBot, List.contains_cons, List.contains_nil, Nat.reduceBEq, Bool.or_false, Bool.false_or, Bool.or_true, Bool.true_or, beq_self_eq_true, Bool.false_eq_true, ↓reduceIte, if_false, if_true]
            try rfl
          · obtain ⟨y, ey⟩ : ∃ y, l[j]? = some y := ⟨_, List.getElem?_eq_getElem (by omega)⟩
            have hy := hok y (List.mem_of_getElem? ey)
            have haty := hall j (by omega)
            rw [heldAt_get ey] at haty
            have hvy : validTx y.t = true := by unfold heldOk at haty; simp only [Bool.and_eq_true] at haty; exact haty.1.1
            have hIDy := c_ref7_ID y.t hy.t hvy
            have w1 : IntKind.i64.wrap (((j + 1 : Nat) : Int) - 1) = (j : Int) := by rw [wi64 (by omega) (by omega)]; omega
            have d1 : decide (((j + 1 : Nat) : Int) > 0) = true := decide_eq_true (by omega)
            have haf : heldAfter l x (j + 1) = decide (idTx y.t < idTx x.t) := by simp only [heldAfter, ey]
            simp only [go_sem, seval, d1, w1, List.length_map, List.getElem?_map, ey, ex, Int.toNat_natCast, HeldD.av]
            repeat with_reducible refine And.intro (by first | omega | (simp only [List.length_cons, List.length_append, List.length_nil, List.length_map, List.length_take, List.length_drop, List.length_set]; omega)) ?_
            try simp only [go_sem, seval, List.length_map, List.getElem?_map, ey, ex, Int.toNat_natCast, HeldD.av]
            refine ex_call (by exact hIDy) ?_
            simp only [go_sem, seval, List.length_map, List.getElem?_map, ey, ex, Int.toNat_natCast, HeldD.av]
            repeat with_reducible refine And.intro (by first | omega | (simp only [List.length_cons, List.length_append, List.length_nil, List.length_map, List.length_take, List.length_drop, List.length_set]; omega)) ?_
            try simp only [go_sem, seval, List.length_map, List.getElem?_map, ey, ex, Int.toNat_natCast, HeldD.av]
            refine ex_call (by exact hID) ?_
            cases hd : decide (idTx y.t ≥ idTx x.t) with
            | true =>
              have hd2 := of_decide_eq_true hd
              rw [limbo_no hlt (by rw [hat, hh, haf, decide_eq_false (by omega)]; rfl)]
              simp only [go_sem, seval, hd]
              refine finOne ?_ (fun _ e => by cases e)
              show resOf _ _ [.tmp 2] = _
              simp only [go_sem, seval]
            | false =>
              have hd2 := of_decide_eq_false hd
              simp only [go_sem, seval, hd]
              refine next (j + 1 + 1) _ ⟨by omega, fun k hk => by
                rcases Nat.lt_or_ge k (j + 1) with h1 | h1
                · exact hall k h1
                · have : k = j + 1 := by omega
                  subst this; rw [hat, hh, haf, decide_eq_true (by omega)]; rfl⟩ (by omega) ?_
              rw [← wi64_nat (j + 1) (by omega)]
              simp only [ASt.keep, consIf, keepL, keepV, AV.isBot, List.contains_cons, List.contains_nil, Nat.reduceBEq, Bool.or_false, Bool.false_or, Bool.or_true, Bool.true_or, beq_self_eq_true, Bool.false_eq_true, ↓reduceIte, if_false, if_true]
              try rfl
    · have hge : i = l.length := by simp at h; omega
      subst hge
      rw [limbo_yes hall]
      have e48 : decide ((l.length : Int) ≤ 48) = decide (l.length ≤ 48) := decide_congr (by omega)
      simp only [go_sem, seval, List.length_map, e48]
      refine finOne ?_ (fun _ e => by cases e)
      show resOf _ _ [.tmp 2] = _
      simp only [go_sem, seval]
def weighsL : Int → List HeldD → Int
  | n, [] => n
  | n, t :: ts => if n < 1048576 then weighsL (n + weightOf t.t) ts else n
theorem weighsL_drop {n : Int} {l : List HeldD} {i : Nat} {t : HeldD} (e : l[i]? = some t) (h : n < 1048576) : weighsL n (l.drop i) = weighsL (n + weightOf t.t) (l.drop (i + 1)) := by
  obtain ⟨hi, rfl⟩ := List.getElem?_eq_some_iff.1 e
  rw [← List.getElem_cons_drop hi]
  simp only [weighsL, if_pos h]
theorem weighsL_end {n : Int} {l : List HeldD} (h : ¬ n < 1048576) : weighsL n l = n := by
  cases l with
  | nil => rfl
  | cons b bs => simp only [weighsL, if_neg h]
theorem c_LimboWeight (l : List HeldD) (hl : l.length * 208 ≤ reachBytes) (hok : ∀ a ∈ l, a.ok) : Contract Try.prog 92 [limbo l] (.int .i64 (weighsL l.length l)) := by
  unfold reachBytes at hl
  refine contract_of (C := cf 26 [0, 2, 3, 4, 14] (fun _ => [])) (cf_ok _ _ _) (fn := Try.f92) Try.func92 (by kernel_rfl) rfl (by kernel_rfl) (by simp [cf]) (plain1 (limbo_plain l)) (by decide) (noCell (by kernel_rfl)) ?_
  simp only [go_sem, seval, limbo, List.length_map]
  refine ex_iter [0, 3, 4] (fun q : Nat × Int => ⟨[(0, .sl false 22 (l.map HeldD.av)), (3, .int .i64 q.2), (4, .int .i64 q.1)], [], []⟩)
    (fun q => q.1 ≤ l.length ∧ 0 ≤ q.2 ∧ q.2 ≤ 1281474976710656 ∧ weighsL q.2 (l.drop q.1) = weighsL l.length l) (fun q => l.length - q.1) (0, (l.length : Int)) ?_ ?_ ?_
  · simp only [ASt.keep, consIf, keepL, keepV, AV.isBot, List.contains_cons, List.contains_nil, Nat.reduceBEq, Bool.or_false, Bool.false_or, Bool.or_true, Bool.true_or, beq_self_eq_true, Bool.false_eq_true, ↓reduceIte, if_false, if_true]
    rfl
  · exact ⟨Nat.zero_le _, by simp only; omega, by simp only; omega, rfl⟩
  · rintro r ⟨i, n⟩ hinv next
    obtain ⟨hi, hn1, hn2, hw⟩ : i ≤ l.length ∧ 0 ≤ n ∧ n ≤ 1281474976710656 ∧ weighsL n (l.drop i) = weighsL l.length l := hinv
    simp only [go_sem, seval, List.length_map]
    refine ex_joinB 14 (decide (i < l.length) && decide (n < 1048576)) ?_ ?_
    · repeat' (first | (refine ex_split (fun h => ?_) (fun h => ?_)) | (with_reducible refine And.intro (by omega) ?_) |
        (simp only [go_sem, seval, List.length_map]))
      all_goals (try simp only [ASt.mk.injEq, List.cons.injEq, Prod.mk.injEq, AV.bool.injEq, true_and, and_true, eq_self])
      all_goals first | (simp_all; done) | (simp_all; omega) | (rw [Bool.eq_iff_iff]; simp only [List.length_map, Bool.or_eq_true, Bool.and_eq_true, Bool.not_eq_true', Bool.not_eq_false', decide_eq_true_eq, decide_eq_false_iff_not, bne_iff_ne, beq_iff_eq, ne_eq, true_iff, iff_true, false_iff, iff_false, Bool.false_eq_true, not_false_eq_true, not_true_eq_false] at *; omega)
    simp only [go_sem, seval]
    refine ex_br (fun hc => ?_) (fun hc => ?_)
    · have hlt : i < l.length ∧ n < 1048576 := by simpa using hc
      obtain ⟨b, eb⟩ : ∃ b, l[i]? = some b := ⟨_, List.getElem?_eq_getElem hlt.1⟩
      have hbok := hok b (List.mem_of_getElem? eb)
      have hb := weightOf_bounds b.t hbok.t
      have w3 : IntKind.i64.wrap (n + weightOf b.t) = n + weightOf b.t := wi64 (by omega) (by omega)
      simp only [go_sem, seval, List.length_map, List.getElem?_map, eb, Int.toNat_natCast, HeldD.av]
      repeat with_reducible refine And.intro (by first | omega | (simp only [List.length_cons, List.length_append, List.length_nil, List.length_map, List.length_take, List.length_drop, List.length_set]; omega)) ?_
      try simp only [go_sem, seval, List.length_map, List.getElem?_map, eb, Int.toNat_natCast, HeldD.av]
      refine ex_call (by exact c_TxWeight b.t hbok.t) ?_
      simp only [go_sem, seval, w3]
      refine next (i + 1, n + weightOf b.t) _ ⟨by simp only; omega, by simp only; omega, by simp only; omega, by simp only; rw [← weighsL_drop eb hlt.2]; exact hw⟩ (by simp only; omega) ?_
      simp only
      rw [← wi64_nat i (by omega)]
      simp only [ASt.keep, consIf, keepL, keepV, AV.isBot, List.contains_cons, List.contains_nil, Nat.reduceBEq, Bool.or_false, Bool.false_or, Bool.or_true, Bool.true_or, beq_self_eq_true, Bool.false_eq_true, ↓reduceIte, if_false, if_true]
    · have e : weighsL l.length l = n := by
        rw [← hw]
        rcases Nat.lt_or_ge i l.length with h1 | h1
        · refine weighsL_end ?_
          simp at hc
          have := hc (by omega)
          omega
        · rw [List.drop_eq_nil_of_le (by omega)]; rfl
      rw [e]
      simp only [go_sem, seval]
      refine finOne ?_ (fun _ e => by cases e)
      show resOf _ _ [.tmp 2] = _
      simp only [go_sem, seval]
end Go.Proofs.Ytpepfhbfooeoeaa.VA
end
section
namespace Go.Proofs.Ytpepfhbfooeoeaa.VA
set_option maxRecDepth 10000
set_option maxHeartbeats 8000000

theorem c_Clone_u64 (l : List Int) (hl : l.length * 8 ≤ reachBytes) : Contract Try.prog 115 [ints .u64 l] (.own false 1 (l.map (AV.int .u64))) := by
  unfold reachBytes at hl
  refine contract_of (C := cf 8 [0, 2, 4] (fun _ => [])) (cf_ok _ _ _) (fn := Try.f115) Try.func115 (by kernel_rfl) rfl (by kernel_rfl) (by simp [cf]) (plain1 (ints_plain _ l)) (by decide) (noCell (by kernel_rfl)) ?_
  simp only [go_sem, ↓reduceIte, Nat.reduceLT, Nat.reduceLeDiff, Nat.reduceAdd, Nat.reduceSub, Nat.reduceMul, Nat.reduceEqDiff, Nat.reduceBEq, Nat.reduceMod, Nat.reduceDiv, Int.reduceToNat, reduceCtorEq, Int.reduceLT, Int.reduceLE, Int.reduceGT, Int.reduceGE, Int.reduceAdd, Int.reduceSub, Int.reduceMul, Int.reduceNeg, Int.reduceEq, Int.reduceNe, Int.reduceBNe, Int.reduceBEq, Int.reduceDiv, ints]
  refine ex_bothI (fun h => ?_) ?_
  · rw [h]
    simp only [go_sem, ↓reduceIte, Nat.reduceLT, Nat.reduceLeDiff, Nat.reduceAdd, Nat.reduceSub, Nat.reduceMul, Nat.reduceEqDiff, Nat.reduceBEq, Nat.reduceMod, Nat.reduceDiv, Int.reduceToNat, reduceCtorEq, Int.reduceLT, Int.reduceLE, Int.reduceGT, Int.reduceGE, Int.reduceAdd, Int.reduceSub, Int.reduceMul, Int.reduceNeg, Int.reduceEq, Int.reduceNe, Int.reduceBNe, Int.reduceBEq, Int.reduceDiv]
    refine finOne ?_ (fun _ e => by cases e)
    show resOf _ _ [.tmp 2] = _
    simp only [go_sem, ↓reduceIte, Nat.reduceLT, Nat.reduceLeDiff, Nat.reduceAdd, Nat.reduceSub, Nat.reduceMul, Nat.reduceEqDiff, Nat.reduceBEq, Nat.reduceMod, Nat.reduceDiv, Int.reduceToNat, reduceCtorEq, Int.reduceLT, Int.reduceLE, Int.reduceGT, Int.reduceGE, Int.reduceAdd, Int.reduceSub, Int.reduceMul, Int.reduceNeg, Int.reduceEq, Int.reduceNe, Int.reduceBNe, Int.reduceBEq, Int.reduceDiv]
  · simp only [go_sem, ↓reduceIte, Nat.reduceLT, Nat.reduceLeDiff, Nat.reduceAdd, Nat.reduceSub, Nat.reduceMul, Nat.reduceEqDiff, Nat.reduceBEq, Nat.reduceMod, Nat.reduceDiv, Int.reduceToNat, reduceCtorEq, Int.reduceLT, Int.reduceLE, Int.reduceGT, Int.reduceGE, Int.reduceAdd, Int.reduceSub, Int.reduceMul, Int.reduceNeg, Int.reduceEq, Int.reduceNe, Int.reduceBNe, Int.reduceBEq, Int.reduceDiv]
    repeat with_reducible refine And.intro (by first | omega | (simp only [List.length_cons, List.length_append, List.length_nil, List.length_map, List.length_take, List.length_drop, List.length_set]; omega)) ?_
    refine finOne ?_ (fun _ e => by cases e)
    show resOf _ _ [.tmp 2] = _
    simp only [go_sem, ↓reduceIte, Nat.reduceLT, Nat.reduceLeDiff, Nat.reduceAdd, Nat.reduceSub, Nat.reduceMul, Nat.reduceEqDiff, Nat.reduceBEq, Nat.reduceMod, Nat.reduceDiv, Int.reduceToNat, reduceCtorEq, Int.reduceLT, Int.reduceLE, Int.reduceGT, Int.reduceGE, Int.reduceAdd, Int.reduceSub, Int.reduceMul, Int.reduceNeg, Int.reduceEq, Int.reduceNe, Int.reduceBNe, Int.reduceBEq, Int.reduceDiv]
theorem c_Clone_str (l : List (List UInt8)) (hl : l.length * 16 ≤ reachBytes) : Contract Try.prog 116 [strs l] (.own false 1 (l.map AV.str)) := by
  unfold reachBytes at hl
  refine contract_of (C := cf 8 [0, 2, 4] (fun _ => [])) (cf_ok _ _ _) (fn := Try.f116) Try.func116 (by kernel_rfl) rfl (by kernel_rfl) (by simp [cf]) (plain1 (strs_plain l)) (by decide) (noCell (by kernel_rfl)) ?_
  simp only [go_sem, ↓reduceIte, Nat.reduceLT, Nat.reduceLeDiff, Nat.reduceAdd, Nat.reduceSub, Nat.reduceMul, Nat.reduceEqDiff, Nat.reduceBEq, Nat.reduceMod, Nat.reduceDiv, Int.reduceToNat, reduceCtorEq, Int.reduceLT, Int.reduceLE, Int.reduceGT, Int.reduceGE, Int.reduceAdd, Int.reduceSub, Int.reduceMul, Int.reduceNeg, Int.reduceEq, Int.reduceNe, Int.reduceBNe, Int.reduceBEq, Int.reduceDiv, strs]
  refine ex_bothI (fun h => ?_) ?_
  · rw [h]
    simp only [go_sem, ↓reduceIte, Nat.reduceLT, Nat.reduceLeDiff, Nat.reduceAdd, Nat.reduceSub, Nat.reduceMul, Nat.reduceEqDiff, Nat.reduceBEq, Nat.reduceMod, Nat.reduceDiv, Int.reduceToNat, reduceCtorEq, Int.reduceLT, Int.reduceLE, Int.reduceGT, Int.reduceGE, Int.reduceAdd, Int.reduceSub, Int.reduceMul, Int.reduceNeg, Int.reduceEq, Int.reduceNe, Int.reduceBNe, Int.reduceBEq, Int.reduceDiv]
    refine finOne ?_ (fun _ e => by cases e)
    show resOf _ _ [.tmp 2] = _
    simp only [go_sem, ↓reduceIte, Nat.reduceLT, Nat.reduceLeDiff, Nat.reduceAdd, Nat.reduceSub, Nat.reduceMul, Nat.reduceEqDiff, Nat.reduceBEq, Nat.reduceMod, Nat.reduceDiv, Int.reduceToNat, reduceCtorEq, Int.reduceLT, Int.reduceLE, Int.reduceGT, Int.reduceGE, Int.reduceAdd, Int.reduceSub, Int.reduceMul, Int.reduceNeg, Int.reduceEq, Int.reduceNe, Int.reduceBNe, Int.reduceBEq, Int.reduceDiv]
  · simp only [go_sem, ↓reduceIte, Nat.reduceLT, Nat.reduceLeDiff, Nat.reduceAdd, Nat.reduceSub, Nat.reduceMul, Nat.reduceEqDiff, Nat.reduceBEq, Nat.reduceMod, Nat.reduceDiv, Int.reduceToNat, reduceCtorEq, Int.reduceLT, Int.reduceLE, Int.reduceGT, Int.reduceGE, Int.reduceAdd, Int.reduceSub, Int.reduceMul, Int.reduceNeg, Int.reduceEq, Int.reduceNe, Int.reduceBNe, Int.reduceBEq, Int.reduceDiv]
    repeat with_reducible refine And.intro (by first | omega | (simp only [List.length_cons, List.length_append, List.length_nil, List.length_map, List.length_take, List.length_drop, List.length_set]; omega)) ?_
    refine finOne ?_ (fun _ e => by cases e)
    show resOf _ _ [.tmp 2] = _
    simp only [go_sem, ↓reduceIte, Nat.reduceLT, Nat.reduceLeDiff, Nat.reduceAdd, Nat.reduceSub, Nat.reduceMul, Nat.reduceEqDiff, Nat.reduceBEq, Nat.reduceMod, Nat.reduceDiv, Int.reduceToNat, reduceCtorEq, Int.reduceLT, Int.reduceLE, Int.reduceGT, Int.reduceGE, Int.reduceAdd, Int.reduceSub, Int.reduceMul, Int.reduceNeg, Int.reduceEq, Int.reduceNe, Int.reduceBNe, Int.reduceBEq, Int.reduceDiv]
theorem c_tx_Copy (t : TxD) (h : t.ok) : Contract Try.prog 85 [t.av] t.av := by
  refine contract_of (C := cf 12 [1, 2] (fun _ => [])) (cf_ok _ _ _) (fn := Try.f85) Try.func85 (by kernel_rfl) rfl (by kernel_rfl) (by simp [cf]) (plain1 t.plain) (by decide) (cellsOk (by kernel_rfl)) ?_
  simp only [go_sem, ↓reduceIte, Nat.reduceLT, Nat.reduceLeDiff, Nat.reduceAdd, Nat.reduceSub, Nat.reduceMul, Nat.reduceEqDiff, Nat.reduceBEq, Nat.reduceMod, Nat.reduceDiv, Int.reduceToNat, reduceCtorEq, Int.reduceLT, Int.reduceLE, Int.reduceGT, Int.reduceGE, Int.reduceAdd, Int.reduceSub, Int.reduceMul, Int.reduceNeg, Int.reduceEq, Int.reduceNe, Int.reduceBNe, Int.reduceBEq, Int.reduceDiv, TxD.av, TxD.cells, ints, strs]
  refine ex_draw [7, 9] [] (.quiet 0 (.quiet 1 (.quiet 3 (.quiet 4 (.one 2 (.quiet 6 (.one 5 (.unlock (.one 7 (.quiet 8 (.one 9 (.fin)))))))))))) (by kernel_rfl) ?_
  simp only [go_sem, ↓reduceIte, Nat.reduceLT, Nat.reduceLeDiff, Nat.reduceAdd, Nat.reduceSub, Nat.reduceMul, Nat.reduceEqDiff, Nat.reduceBEq, Nat.reduceMod, Nat.reduceDiv, Int.reduceToNat, reduceCtorEq, Int.reduceLT, Int.reduceLE, Int.reduceGT, Int.reduceGE, Int.reduceAdd, Int.reduceSub, Int.reduceMul, Int.reduceNeg, Int.reduceEq, Int.reduceNe, Int.reduceBNe, Int.reduceBEq, Int.reduceDiv]
  refine ex_call (by exact c_Clone_u64 t.hashes h.hashes) ?_
  simp only [go_sem, ↓reduceIte, Nat.reduceLT, Nat.reduceLeDiff, Nat.reduceAdd, Nat.reduceSub, Nat.reduceMul, Nat.reduceEqDiff, Nat.reduceBEq, Nat.reduceMod, Nat.reduceDiv, Int.reduceToNat, reduceCtorEq, Int.reduceLT, Int.reduceLE, Int.reduceGT, Int.reduceGE, Int.reduceAdd, Int.reduceSub, Int.reduceMul, Int.reduceNeg, Int.reduceEq, Int.reduceNe, Int.reduceBNe, Int.reduceBEq, Int.reduceDiv]
  refine ex_call (by exact c_Clone_str t.blobs h.blobs) ?_
  simp only [go_sem, ↓reduceIte, Nat.reduceLT, Nat.reduceLeDiff, Nat.reduceAdd, Nat.reduceSub, Nat.reduceMul, Nat.reduceEqDiff, Nat.reduceBEq, Nat.reduceMod, Nat.reduceDiv, Int.reduceToNat, reduceCtorEq, Int.reduceLT, Int.reduceLE, Int.reduceGT, Int.reduceGE, Int.reduceAdd, Int.reduceSub, Int.reduceMul, Int.reduceNeg, Int.reduceEq, Int.reduceNe, Int.reduceBNe, Int.reduceBEq, Int.reduceDiv]
  refine finOneD (r' := t.dull) ?_ t.dull_av (fun _ e => by cases e) (fun _ e => by cases e)
  show resOf _ _ [.cell 2 29] = _
  simp only [go_sem, ↓reduceIte, Nat.reduceLT, Nat.reduceLeDiff, Nat.reduceAdd, Nat.reduceSub, Nat.reduceMul, Nat.reduceEqDiff, Nat.reduceBEq, Nat.reduceMod, Nat.reduceDiv, Int.reduceToNat, reduceCtorEq, Int.reduceLT, Int.reduceLE, Int.reduceGT, Int.reduceGE, Int.reduceAdd, Int.reduceSub, Int.reduceMul, Int.reduceNeg, Int.reduceEq, Int.reduceNe, Int.reduceBNe, Int.reduceBEq, Int.reduceDiv, TxD.dull]
end Go.Proofs.Ytpepfhbfooeoeaa.VA
end
section
namespace Go.Proofs.Ytpepfhbfooeoeaa.VA
set_option maxRecDepth 10000
set_option maxHeartbeats 16000000

def prevId (l : List HeldD) : Nat → Int
  | 0 => 0
  | k + 1 => match l[k]? with
    | some g => idTx g.t
    | none => 0
theorem r_txID (t : TxD) (h : t.ok) : Contract Try.prog 93 [txE t] (.tup [.int .u64 (if validTx t = true then idTx t else 0), .int .i64 (if validTx t = true then 0 else 1)]) := c_tx_ID t h
theorem r_txCopy (t : TxD) (h : t.ok) : Contract Try.prog 85 [txE t] (txE t) := c_tx_Copy t h
theorem c_pool_Limbo (l : List HeldD) (hl : l.length * 208 ≤ reachBytes) (hok : ∀ a ∈ l, a.ok) : Contract Try.prog 94 [limbo l] (.bool (limboOk l)) := by
  unfold reachBytes at hl
  refine contract_of (C := cf 47 [0, 2, 3, 4, 5, 6, 7, 10, 11, 12, 13, 14, 44] (fun _ => [])) (cf_ok _ _ _) (fn := Try.f94) Try.func94 (by kernel_rfl) rfl (by kernel_rfl) (by simp [cf]) (plain1 (limbo_plain l)) (by decide) (noCell (by kernel_rfl)) ?_
  rcases Decidable.em (l.length ≤ 48) with h48 | h48
  · have e48 : decide ((l.length : Int) > 48) = false := decide_eq_false (by omega)
    simp only [go_sem, seval, limbo, List.length_map, e48]
    refine ex_iter [0, 3, 11, 12, 13] (fun i : Nat => ⟨[(0, .sl false 22 (l.map HeldD.av)), (3, .int .u64 (prevId l i)), (11, .sl false 22 (l.map HeldD.av)), (12, .int .i64 l.length), (13, .int .i64 i)], [], []⟩) (fun i => i ≤ l.length ∧ ∀ k < i, heldAt l k = true) (fun i => l.length - i) 0 ?_ ?_ ?_
    · simp only [ASt.keep, consIf, keepL, keepV, AV.isBot, List.contains_cons, List.contains_nil, Nat.reduceBEq, Bool.or_false, Bool.false_or, Bool.or_true, Bool.true_or, beq_self_eq_true, Bool.false_eq_true, ↓reduceIte, if_false, if_true]
      try rfl
    · exact ⟨Nat.zero_le _, fun k hk => absurd hk (Nat.not_lt_zero k)⟩
    · rintro n i ⟨hi, hall⟩ next
      simp only [go_sem, seval, List.length_map]
      refine ex_br (fun h => ?_) (fun h => ?_)
      · have hlt : i < l.length := by simpa using h
        obtain ⟨x, ex⟩ : ∃ x, l[i]? = some x := ⟨_, List.getElem?_eq_getElem hlt⟩
        have hx := hok x (List.mem_of_getElem? ex)
        have hat := heldAt_get ex
        have hID := r_txID x.t hx.t
        simp only [go_sem, seval, List.length_map, List.getElem?_map, ex, Int.toNat_natCast, HeldD.av]
        repeat with_reducible refine And.intro (by first | omega | (simp only [List.length_cons, List.length_append, List.length_nil, List.length_map, List.length_take, List.length_drop, List.length_set]; omega)) ?_
        try simp only [go_sem, seval, List.length_map, List.getElem?_map, ex, Int.toNat_natCast, HeldD.av]
        refine ex_call (by exact hID) ?_
        cases hv : validTx x.t with
        | false =>
          rw [limbo_no hlt (by rw [hat]; unfold heldOk; rw [hv]; rfl)]
          simp only [go_sem, seval]
          refine finOne ?_ (fun _ e => by cases e)
          show resOf _ _ [.tmp 2] = _
          simp only [go_sem, seval]
        | true =>
          rw [if_pos rfl, if_pos rfl]
          have haf : heldAfter l x i = (!(decide ((i : Int) > 0) && decide (idTx x.t ≤ prevId l i))) := by
            rcases i with _ | j
            · rfl
            · obtain ⟨y, ey⟩ : ∃ y, l[j]? = some y := ⟨_, List.getElem?_eq_getElem (by omega)⟩
              simp only [heldAfter, prevId, ey]
              rw [decide_eq_true (show ((j + 1 : Nat) : Int) > 0 by omega), Bool.true_and]
              rcases Decidable.em (idTx y.t < idTx x.t) with q | q
              · rw [decide_eq_true q, decide_eq_false (by omega)]; rfl
              · rw [decide_eq_false q, decide_eq_true (by omega)]; rfl
          have hpn : prevId l (i + 1) = idTx x.t := by simp only [prevId, ex]
          generalize hpp : prevId l i = pp at haf
          cases d1 : decide ((i : Int) > 0) <;> cases d2 : decide (idTx x.t ≤ pp) <;> cases d3 : decide (x.n < 0) <;> cases d4 : decide (x.n > 1099511627776)
          all_goals (have q3 : decide (0 ≤ x.n) = !decide (x.n < 0) := by rw [Bool.eq_iff_iff]; simp)
          all_goals (have q4 : decide (x.n ≤ 1099511627776) = !decide (x.n > 1099511627776) := by rw [Bool.eq_iff_iff]; simp)
          all_goals (rw [d3] at q3; rw [d4] at q4; rw [d1, d2] at haf)
          all_goals first
            | (rw [limbo_no hlt (by rw [hat, haf]; unfold heldOk; rw [hv, q3, q4]; rfl)]
               simp only [go_sem, seval, d1, d2, d3, d4]
               refine finOne ?_ (fun _ e => by cases e)
               show resOf _ _ [.tmp 2] = _
               simp only [go_sem, seval]
               done)
            | (simp only [go_sem, seval, d1, d2, d3, d4]
               refine next (i + 1) _ ⟨by omega, fun k hk => by
                rcases Nat.lt_or_ge k i with h1 | h1
                · exact hall k h1
                · have : k = i := by omega
                  subst this; rw [hat, haf]; unfold heldOk; rw [hv, q3, q4]; rfl⟩ (by omega) ?_
               rw [hpn, ← wi64_nat i (by omega)]
               simp only [ASt.keep, consIf, keepL, keepV, AV.isBot, List.contains_cons, List.contains_nil, Nat.reduceBEq, Bool.or_false, Bool.false_or, Bool.or_true, Bool.true_or, beq_self_eq_true, Bool.false_eq_true, ↓reduceIte, if_false, if_true]
               try rfl)
      · have hge : i = l.length := by simp at h; omega
        subst hge
        rw [limbo_yes hall, decide_eq_true h48]
        simp only [go_sem, seval]
        refine finOne ?_ (fun _ e => by cases e)
        show resOf _ _ [.tmp 2] = _
        simp only [go_sem, seval]
  · have e48 : decide ((l.length : Int) > 48) = true := decide_eq_true (by omega)
    have : limboOk l = false := by unfold limboOk; rw [decide_eq_false h48]; rfl
    rw [this]
    simp only [go_sem, seval, limbo, List.length_map, e48]
    refine finOne ?_ (fun _ e => by cases e)
    show resOf _ _ [.tmp 2] = _
    simp only [go_sem, seval]
end Go.Proofs.Ytpepfhbfooeoeaa.VA
end
section
namespace Go.Proofs.Ytpepfhbfooeoeaa.VA
set_option maxRecDepth 10000
set_option maxHeartbeats 16000000

theorem c_pool_Helds (l : List HeldD) (hl : l.length * 208 ≤ reachBytes) (hok : ∀ a ∈ l, a.ok) : Contract Try.prog 97 [limbo l] (.own false 22 (l.map HeldD.av)) := by
  unfold reachBytes at hl
  refine contract_of (C := cf 23 [0, 2, 3, 5, 6, 7, 8, 9] (fun _ => [])) (cf_ok _ _ _) (fn := Try.f97) Try.func97 (by kernel_rfl) rfl (by kernel_rfl) (by simp [cf]) (plain1 (limbo_plain l)) (by decide) (noCell (by kernel_rfl)) ?_
  simp only [go_sem, seval, limbo, List.length_map]
  refine ex_iter [0, 3, 6, 7, 8] (fun i : Nat => ⟨[(0, .sl false 22 (l.map HeldD.av)), (3, .own false 22 ((l.take i).map HeldD.av)), (6, .sl false 22 (l.map HeldD.av)), (7, .int .i64 l.length), (8, .int .i64 i)], [], []⟩) (fun i => i ≤ l.length) (fun i => l.length - i) 0 ?_ ?_ ?_
  · simp only [ASt.keep, consIf, keepL, keepV, AV.isBot, List.contains_cons, List.contains_nil, Nat.reduceBEq, Bool.or_false, Bool.false_or, Bool.or_true, Bool.true_or, beq_self_eq_true, Bool.false_eq_true, ↓reduceIte, if_false, if_true]
    rfl
  · exact Nat.zero_le _
  · intro n i hi next
    simp only [go_sem, seval, List.length_map]
    refine ex_br (fun h => ?_) (fun h => ?_)
    · have hlt : i < l.length := by simpa using h
      obtain ⟨x, ex⟩ : ∃ x, l[i]? = some x := ⟨_, List.getElem?_eq_getElem hlt⟩
      have hs : (l.take i).map HeldD.av ++ [x.av] = (l.take (i + 1)).map HeldD.av := take_snoc HeldD.av ex
      have hc := r_txCopy x.t (hok x (List.mem_of_getElem? ex)).t
      simp only [go_sem, seval, List.length_map, List.getElem?_map, ex, Int.toNat_natCast, HeldD.av]
      repeat with_reducible refine And.intro (by first | omega | (simp only [List.length_cons, List.length_append, List.length_nil, List.length_map, List.length_take, List.length_drop, List.length_set]; omega)) ?_
      try simp only [go_sem, seval, List.length_map, List.getElem?_map, ex, Int.toNat_natCast, HeldD.av]
      refine ex_draw [] [] (.quiet 0 (.quiet 1 (.quiet 2 (.quiet 4 (.quiet 5 (.one 3 (.one 6 (.one 7 (.one 8 (.quiet 9 (.fin))))))))))) (by kernel_rfl) ?_
      simp only [go_sem, seval]
      refine ex_call (by exact hc) ?_
      simp only [go_sem, seval, List.length_map]
      repeat with_reducible refine And.intro (by first | omega | (simp only [List.length_cons, List.length_append, List.length_nil, List.length_map, List.length_take, List.length_drop, List.length_set]; omega)) ?_
      try simp only [go_sem, seval, List.length_map]
      refine next (i + 1) _ (by omega) (by omega) ?_
      rw [← wi64_nat i (by omega), ← hs]
      simp only [ASt.keep, consIf, keepL, keepV, AV.isBot, List.contains_cons, List.contains_nil, Nat.reduceBEq, Bool.or_false, Bool.false_or, Bool.or_true, Bool.true_or, beq_self_eq_true, Bool.false_eq_true, ↓reduceIte, if_false, if_true]
      try rfl
    · have hge : i = l.length := by simp at h; omega
      subst hge
      simp only [go_sem, seval, List.take_length]
      refine finOne ?_ (fun _ e => by cases e)
      show resOf _ _ [.tmp 2] = _
      simp only [go_sem, seval]
def stayOf (l : List HeldD) (n : Int) : List HeldD := l.filter fun h => decide (n < h.n)
def goneOf (l : List HeldD) (n : Int) : List HeldD := l.filter fun h => decide (h.n ≤ n)
theorem stay_take {l : List HeldD} {n : Int} {i : Nat} {x : HeldD} (e : l[i]? = some x) : stayOf (l.take (i + 1)) n = stayOf (l.take i) n ++ (if n < x.n then [x] else []) := by
  unfold stayOf
  rw [List.take_add_one, e, List.filter_append]
  split <;> simp_all
theorem gone_take {l : List HeldD} {n : Int} {i : Nat} {x : HeldD} (e : l[i]? = some x) : goneOf (l.take (i + 1)) n = goneOf (l.take i) n ++ (if x.n ≤ n then [x] else []) := by
  unfold goneOf
  rw [List.take_add_one, e, List.filter_append]
  split <;> simp_all
theorem stay_len (l : List HeldD) (n : Int) (i : Nat) : (stayOf (l.take i) n).length ≤ i := Nat.le_trans (List.length_filter_le _ _) (List.length_take_le _ _)
theorem gone_len (l : List HeldD) (n : Int) (i : Nat) : (goneOf (l.take i) n).length ≤ i := Nat.le_trans (List.length_filter_le _ _) (List.length_take_le _ _)
theorem c_ref20_Final (l : List HeldD) (b : Int) (hl : l.length * 208 ≤ reachBytes) (hok : ∀ a ∈ l, a.ok) : Contract Try.prog 64 [limbo l, .int .i64 b] (.tup [.own false 22 ((stayOf l b).map HeldD.av), .own false 22 ((goneOf l b).map HeldD.av)]) := by
  unfold reachBytes at hl
  refine contract_of (C := cf 40 [0, 1, 4, 5, 6, 7, 8, 12, 21] (fun _ => [])) (cf_ok _ _ _) (fn := Try.f64) Try.func64 (by kernel_rfl) rfl (by kernel_rfl) (by simp [cf]) (plain2 (limbo_plain l) (.int _ _)) (by decide) (noCell (by kernel_rfl)) ?_
  simp only [go_sem, seval, limbo, List.length_map]
  refine ex_iter [0, 1, 6, 7, 8] (fun i : Nat => ⟨[(0, .sl false 22 (l.map HeldD.av)), (1, .int .i64 b), (6, .own false 22 ((stayOf (l.take i) b).map HeldD.av)), (7, .own false 22 ((goneOf (l.take i) b).map HeldD.av)), (8, .int .i64 i)], [], []⟩) (fun i => i ≤ l.length) (fun i => l.length - i) 0 ?_ ?_ ?_
  · simp only [ASt.keep, consIf, keepL, keepV, AV.isBot, List.contains_cons, List.contains_nil, Nat.reduceBEq, Bool.or_false, Bool.false_or, Bool.or_true, Bool.true_or, beq_self_eq_true, Bool.false_eq_true, ↓reduceIte, if_false, if_true]
    rfl
  · exact Nat.zero_le _
  · intro n i hi next
    simp only [go_sem, seval, List.length_map]
    refine ex_br (fun h => ?_) (fun h => ?_)
    · have hlt : i < l.length := by simpa using h
      obtain ⟨x, ex⟩ : ∃ x, l[i]? = some x := ⟨_, List.getElem?_eq_getElem hlt⟩
      have hc := c_CopyHeld x (hok x (List.mem_of_getElem? ex))
      have l1 := stay_len l b i
      have l2 := gone_len l b i
      cases hd : decide (x.n > b) with
      | true =>
        have hd2 := of_decide_eq_true hd
        have s1 := stay_take (n := b) ex
        have s2 := gone_take (n := b) ex
        rw [if_pos (by omega)] at s1
        rw [if_neg (by omega), List.append_nil] at s2
        simp only [go_sem, seval, List.length_map, List.getElem?_map, ex, Int.toNat_natCast, HeldD.av]
        repeat with_reducible refine And.intro (by first | omega | (simp only [List.length_cons, List.length_append, List.length_nil, List.length_map, List.length_take, List.length_drop, List.length_set]; omega)) ?_
        try simp only [go_sem, seval, hd, List.length_map, List.getElem?_map, ex, Int.toNat_natCast, HeldD.av]
        repeat with_reducible refine And.intro (by first | omega | (simp only [List.length_cons, List.length_append, List.length_nil, List.length_map, List.length_take, List.length_drop, List.length_set]; omega)) ?_
        try simp only [go_sem, seval, hd, List.length_map, List.getElem?_map, ex, Int.toNat_natCast, HeldD.av]
        refine ex_call (by exact hc) ?_
        simp only [go_sem, seval, List.length_map, HeldD.av]
        repeat with_reducible refine And.intro (by first | omega | (simp only [List.length_cons, List.length_append, List.length_nil, List.length_map, List.length_take, List.length_drop, List.length_set]; omega)) ?_
        try simp only [go_sem, seval, List.length_map, HeldD.av]
        refine next (i + 1) _ (by omega) (by omega) ?_
        rw [s1, s2, List.map_append, ← wi64_nat i (by omega)]
        simp only [ASt.keep, consIf, keepL, keepV, AV.isBot, List.contains_cons, List.contains_nil, Nat.reduceBEq, Bool.or_false, Bool.false_or, Bool.or_true, Bool.true_or, beq_self_eq_true, Bool.false_eq_true, ↓reduceIte, if_false, if_true]
        try rfl
      | false =>
        have hd2 := of_decide_eq_false hd
        have s1 := stay_take (n := b) ex
        have s2 := gone_take (n := b) ex
        rw [if_neg (by omega), List.append_nil] at s1
        rw [if_pos (by omega)] at s2
        simp only [go_sem, seval, List.length_map, List.getElem?_map, ex, Int.toNat_natCast, HeldD.av]
        repeat with_reducible refine And.intro (by first | omega | (simp only [List.length_cons, List.length_append, List.length_nil, List.length_map, List.length_take, List.length_drop, List.length_set]; omega)) ?_
        try simp only [go_sem, seval, hd, List.length_map, List.getElem?_map, ex, Int.toNat_natCast, HeldD.av]
        repeat with_reducible refine And.intro (by first | omega | (simp only [List.length_cons, List.length_append, List.length_nil, List.length_map, List.length_take, List.length_drop, List.length_set]; omega)) ?_
        try simp only [go_sem, seval, hd, List.length_map, List.getElem?_map, ex, Int.toNat_natCast, HeldD.av]
        refine ex_call (by exact hc) ?_
        simp only [go_sem, seval, List.length_map, HeldD.av]
        repeat with_reducible refine And.intro (by first | omega | (simp only [List.length_cons, List.length_append, List.length_nil, List.length_map, List.length_take, List.length_drop, List.length_set]; omega)) ?_
        try simp only [go_sem, seval, List.length_map, HeldD.av]
        refine next (i + 1) _ (by omega) (by omega) ?_
        rw [s1, s2, List.map_append, ← wi64_nat i (by omega)]
        simp only [ASt.keep, consIf, keepL, keepV, AV.isBot, List.contains_cons, List.contains_nil, Nat.reduceBEq, Bool.or_false, Bool.false_or, Bool.or_true, Bool.true_or, beq_self_eq_true, Bool.false_eq_true, ↓reduceIte, if_false, if_true]
        try rfl
    · have hge : i = l.length := by simp at h; omega
      subst hge
      simp only [go_sem, seval, List.take_length]
      refine finTup ?_
      show resOf _ _ [.tmp 4, .tmp 5] = _
      simp only [go_sem, seval]
/-- What the page and the program answer. -/
def finalOk (l : List HeldD) (b : Int) : Bool := limboOk l && (decide (0 ≤ b) && decide (b ≤ 1099511627776))
theorem c_limbo_Final (l : List HeldD) (b : Int) (hl : l.length * 208 ≤ reachBytes) (hok : ∀ a ∈ l, a.ok) : Contract Try.prog 63 [limbo l, .int .i64 b] (.tup [.own false 22 ((if finalOk l b = true then stayOf l b else []).map HeldD.av), .own false 22 ((if finalOk l b = true then goneOf l b else []).map HeldD.av), .int .i64 (if finalOk l b = true then 0 else 1)]) := by
  have hP := c_pool_Limbo l hl hok
  have hH := c_pool_Helds l hl hok
  unfold reachBytes at hl
  have q3 : decide (0 ≤ b) = !decide (b < 0) := by rw [Bool.eq_iff_iff]; simp
  have q4 : decide (b ≤ 1099511627776) = !decide (b > 1099511627776) := by rw [Bool.eq_iff_iff]; simp
  have hf : finalOk l b = (limboOk l && (!decide (b < 0) && !decide (b > 1099511627776))) := by unfold finalOk; rw [q3, q4]
  refine contract_of (C := cf 44 [0, 1, 4, 5, 6, 7, 8, 10, 21, 23, 24, 25, 26, 32] (fun _ => [])) (cf_ok _ _ _) (fn := Try.f63) Try.func63 (by kernel_rfl) rfl (by kernel_rfl) (by simp [cf]) (plain2 (limbo_plain l) (.int _ _)) (by decide) (noCell (by kernel_rfl)) ?_
  simp only [go_sem, seval, limbo, List.length_map]
  refine ex_call (by exact hP) ?_
  cases d1 : limboOk l <;> cases d2 : decide (b < 0) <;> cases d3 : decide (b > 1099511627776)
  all_goals rw [d1, d2, d3] at hf
  all_goals rw [hf]
  all_goals try (
    simp only [go_sem, seval, d1, d2, d3]
    refine finTup ?_
    show resOf _ _ [.tmp 4, .tmp 5, .tmp 6] = _
    simp only [go_sem, seval]
    done)
  simp only [go_sem, seval, d1, d2, d3]
  refine ex_call (by exact hH) ?_
  simp only [go_sem, seval, List.length_map]
  refine ex_iter [1, 7, 8, 23, 24, 25] (fun i : Nat => ⟨[(1, .int .i64 b), (7, .own false 22 ((stayOf (l.take i) b).map HeldD.av)), (8, .own false 22 ((goneOf (l.take i) b).map HeldD.av)), (23, .own false 22 (l.map HeldD.av)), (24, .int .i64 l.length), (25, .int .i64 i)], [], []⟩) (fun i => i ≤ l.length) (fun i => l.length - i) 0 ?_ ?_ ?_
  · simp only [ASt.keep, consIf, keepL, keepV, AV.isBot, List.contains_cons, List.contains_nil, Nat.reduceBEq, Bool.or_false, Bool.false_or, Bool.or_true, Bool.true_or, beq_self_eq_true, Bool.false_eq_true, ↓reduceIte, if_false, if_true]
    try rfl
  · exact Nat.zero_le _
  · intro n i hi next
    simp only [go_sem, seval, List.length_map]
    refine ex_br (fun h => ?_) (fun h => ?_)
    · have hlt : i < l.length := by simpa using h
      obtain ⟨x, ex⟩ : ∃ x, l[i]? = some x := ⟨_, List.getElem?_eq_getElem hlt⟩
      have l1 := stay_len l b i
      have l2 := gone_len l b i
      cases hd : decide (x.n ≤ b) with
      | true =>
        have hd2 := of_decide_eq_true hd
        have s1 := stay_take (n := b) ex
        have s2 := gone_take (n := b) ex
        rw [if_neg (by omega), List.append_nil] at s1
        rw [if_pos (by omega)] at s2
        simp only [go_sem, seval, hd, List.length_map, List.getElem?_map, ex, Int.toNat_natCast, HeldD.av]
        repeat with_reducible refine And.intro (by first | omega | (simp only [List.length_cons, List.length_append, List.length_nil, List.length_map, List.length_take, List.length_drop, List.length_set]; omega)) ?_
        try simp only [go_sem, seval, hd, List.length_map, List.getElem?_map, ex, Int.toNat_natCast, HeldD.av]
        repeat with_reducible refine And.intro (by first | omega | (simp only [List.length_cons, List.length_append, List.length_nil, List.length_map, List.length_take, List.length_drop, List.length_set]; omega)) ?_
        try simp only [go_sem, seval, hd, List.length_map, List.getElem?_map, ex, Int.toNat_natCast, HeldD.av]
        refine next (i + 1) _ (by omega) (by omega) ?_
        rw [s1, s2, List.map_append, ← wi64_nat i (by omega)]
        simp only [ASt.keep, consIf, keepL, keepV, AV.isBot, List.contains_cons, List.contains_nil, Nat.reduceBEq, Bool.or_false, Bool.false_or, Bool.or_true, Bool.true_or, beq_self_eq_true, Bool.false_eq_true, ↓reduceIte, if_false, if_true]
        try rfl
      | false =>
        have hd2 := of_decide_eq_false hd
        have s1 := stay_take (n := b) ex
        have s2 := gone_take (n := b) ex
        rw [if_pos (by omega)] at s1
        rw [if_neg (by omega), List.append_nil] at s2
        simp only [go_sem, seval, hd, List.length_map, List.getElem?_map, ex, Int.toNat_natCast, HeldD.av]
        repeat with_reducible refine And.intro (by first | omega | (simp only [List.length_cons, List.length_append, List.length_nil, List.length_map, List.length_take, List.length_drop, List.length_set]; omega)) ?_
        try simp only [go_sem, seval, hd, List.length_map, List.getElem?_map, ex, Int.toNat_natCast, HeldD.av]
        repeat with_reducible refine And.intro (by first | omega | (simp only [List.length_cons, List.length_append, List.length_nil, List.length_map, List.length_take, List.length_drop, List.length_set]; omega)) ?_
        try simp only [go_sem, seval, hd, List.length_map, List.getElem?_map, ex, Int.toNat_natCast, HeldD.av]
        refine next (i + 1) _ (by omega) (by omega) ?_
        rw [s1, s2, List.map_append, ← wi64_nat i (by omega)]
        simp only [ASt.keep, consIf, keepL, keepV, AV.isBot, List.contains_cons, List.contains_nil, Nat.reduceBEq, Bool.or_false, Bool.false_or, Bool.or_true, Bool.true_or, beq_self_eq_true, Bool.false_eq_true, ↓reduceIte, if_false, if_true]
        try rfl
    · have hge : i = l.length := by simp at h; omega
      subst hge
      simp only [go_sem, seval, List.take_length]
      refine finTup ?_
      show resOf _ _ [.tmp 4, .tmp 5, .tmp 6] = _
      simp only [go_sem, seval]
end Go.Proofs.Ytpepfhbfooeoeaa.VA
end
section
namespace Go.Proofs.Ytpepfhbfooeoeaa.VA
set_option maxRecDepth 10000
set_option maxHeartbeats 16000000

structure Act20 where
  d : Int
  n : Int
  t : TxD
def Act20.av (a : Act20) : AV := .agg [.int .i64 a.d, .int .i64 a.n, .int .i64 a.t.frm, .int .i64 a.t.nonce, .int .u64 (lim a.t.tip 0), .int .u64 (lim a.t.tip 1), .int .u64 (lim a.t.tip 2), .int .u64 (lim a.t.tip 3), .int .u64 (lim a.t.cap 0), .int .u64 (lim a.t.cap 1), .int .u64 (lim a.t.cap 2), .int .u64 (lim a.t.cap 3), .int .u64 (lim a.t.bcap 0), .int .u64 (lim a.t.bcap 1), .int .u64 (lim a.t.bcap 2), .int .u64 (lim a.t.bcap 3), .int .u64 (lim a.t.value 0), .int .u64 (lim a.t.value 1), .int .u64 (lim a.t.value 2), .int .u64 (lim a.t.value 3), .int .i64 a.t.gas, .sl false 1 (a.t.hashes.map (AV.int .u64)), .sl false 1 (a.t.blobs.map AV.str)]
structure Act20.ok (a : Act20) : Prop where
  t : a.t.ok
  n : -9223372036854775808 ≤ a.n ∧ a.n ≤ 9223372036854775807
structure Script20 where
  h : List HeldD
  l : List Act20
def Script20.av (s : Script20) : AV := .agg [.sl false 22 (s.h.map HeldD.av), .sl false 23 (s.l.map Act20.av)]
structure Script20.ok (s : Script20) : Prop where
  hl : s.h.length * 208 ≤ reachBytes
  h : ∀ a ∈ s.h, a.ok
  ll : s.l.length * 216 ≤ reachBytes
  l : ∀ a ∈ s.l, a.ok
theorem act_plain (a : Act20) : Plain a.av := .agg _ fun c hc => by
  have hp : ∀ c ∈ .int .i64 a.d :: .int .i64 a.n :: a.t.cells, Plain c := fun c hc => by
    rcases List.mem_cons.1 hc with h1 | h1
    · subst h1; exact .int _ _
    · rcases List.mem_cons.1 h1 with h2 | h2
      · subst h2; exact .int _ _
      · have := a.t.plain
        cases this with
        | agg _ hh => exact hh c h2
  exact hp c hc
theorem script_plain (s : Script20) : Plain s.av := .agg _ fun c hc => by
  rcases List.mem_cons.1 hc with h1 | h1
  · subst h1; exact limbo_plain s.h
  · cases List.mem_singleton.1 h1
    exact .sl 23 _ fun c hc => by
      obtain ⟨a, _, rfl⟩ := List.mem_map.1 hc
      exact act_plain a
theorem ty_held {x : AV} (h : Ty ti 90 x) : ∃ q : HeldD, x = q.av ∧ q.ok := by
  obtain ⟨xs, rfl, hn, hall⟩ := ty_struct (fs := [(0, 21, 29), (21, 1, 3)]) (by rw [ti90]) h
  match xs, hn with
  | [x0, x1], _ =>
    obtain ⟨a, rfl, ha⟩ := ty_tx (hall 0 _ _ _ x0 rfl rfl)
    obtain ⟨n, rfl, hn⟩ := ty_int (k := .i64) (by rw [ti3]) (hall 1 _ _ _ x1 rfl rfl)
    exact ⟨⟨a, n⟩, rfl, ha, wf_i64 hn⟩
theorem ty_act {x : AV} (h : Ty ti 79 x) : ∃ q : Act20, x = q.av ∧ q.ok := by
  obtain ⟨xs, rfl, hn, hall⟩ := ty_struct (fs := [(0, 1, 3), (1, 1, 3), (2, 21, 29)]) (by rw [ti79]) h
  match xs, hn with
  | [x0, x1, x2], _ =>
    obtain ⟨d, rfl, hd⟩ := ty_int (k := .i64) (by rw [ti3]) (hall 0 _ _ _ x0 rfl rfl)
    obtain ⟨n, rfl, hn⟩ := ty_int (k := .i64) (by rw [ti3]) (hall 1 _ _ _ x1 rfl rfl)
    obtain ⟨a, rfl, ha⟩ := ty_tx (hall 2 _ _ _ x2 rfl rfl)
    exact ⟨⟨d, n, a⟩, rfl, ha, wf_i64 hn⟩
theorem ty_script {x : AV} (h : Ty ti 76 x) : ∃ q : Script20, x = q.av ∧ q.ok := by
  obtain ⟨xs, rfl, hn, hall⟩ := ty_struct (fs := [(0, 1, 73), (1, 1, 74)]) (by rw [ti76]) h
  match xs, hn with
  | [x0, x1], _ =>
    obtain ⟨es, rfl, hs, he⟩ := ty_slice (e := 90) (esz := 22) (eb := 208) (by rw [ti73]) (hall 0 _ _ _ x0 rfl rfl)
    obtain ⟨l, rfl, hl⟩ := ty_map (f := HeldD.av) (fun y hy => ty_held hy) es he
    obtain ⟨fs, rfl, gs, ge⟩ := ty_slice (e := 79) (esz := 23) (eb := 216) (by rw [ti74]) (hall 1 _ _ _ x1 rfl rfl)
    obtain ⟨m, rfl, hm⟩ := ty_map (f := Act20.av) (fun y hy => ty_act hy) fs ge
    exact ⟨⟨l, m⟩, rfl, by simpa using hs, hl, by simpa using gs, hm⟩
theorem weighsL_bounds (l : List HeldD) (hok : ∀ a ∈ l, a.ok) : ∀ n : Int, 0 ≤ n → n ≤ 1281474976710656 → 0 ≤ weighsL n l ∧ weighsL n l ≤ 1281474976710656 := by
  induction l with
  | nil => intro n h1 h2; exact ⟨h1, h2⟩
  | cons b bs ih =>
    intro n h1 h2
    simp only [weighsL]
    have := weightOf_bounds b.t (hok b (by simp)).t
    split
    · exact ih (fun x hx => hok x (List.mem_cons_of_mem _ hx)) _ (by omega) (by omega)
    · exact ⟨h1, h2⟩
def weighs20 : Int → List Act20 → Int
  | n, [] => n
  | n, t :: ts => if n < 1048576 then weighs20 (n + 1 + weightOf t.t) ts else n
theorem weighs20_drop {n : Int} {l : List Act20} {i : Nat} {t : Act20} (e : l[i]? = some t) (h : n < 1048576) : weighs20 n (l.drop i) = weighs20 (n + 1 + weightOf t.t) (l.drop (i + 1)) := by
  obtain ⟨hi, rfl⟩ := List.getElem?_eq_some_iff.1 e
  rw [← List.getElem_cons_drop hi]
  simp only [weighs20, if_pos h]
theorem weighs20_end {n : Int} {l : List Act20} (h : ¬ n < 1048576) : weighs20 n l = n := by
  cases l with
  | nil => rfl
  | cons b bs => simp only [weighs20, if_neg h]
def heavy20 (s : Script20) : Bool := decide (weighs20 (weighsL s.h.length s.h) s.l > 5000) || decide (s.h.length > 60)
theorem c_law20_heavy (s : Script20) (hok : s.ok) : Contract Try.prog 48 [s.av] (.bool (heavy20 s)) := by
  have hW := c_LimboWeight s.h hok.hl hok.h
  have hh := hok.hl
  have hl := hok.ll
  unfold reachBytes at hh hl
  obtain ⟨w1, w2⟩ := weighsL_bounds s.h hok.h s.h.length (by omega) (by omega)
  obtain ⟨W, eW⟩ : ∃ W, W = weighsL s.h.length s.h := ⟨_, rfl⟩
  have eh : heavy20 s = (decide (weighs20 W s.l > 5000) || decide (s.h.length > 60)) := by unfold heavy20; rw [eW]
  rw [← eW] at hW w1 w2
  refine contract_of (C := cf 37 [1, 2, 3, 4, 16] (fun _ => [])) (cf_ok _ _ _) (fn := Try.f48) Try.func48 (by kernel_rfl) rfl (by kernel_rfl) (by simp [cf]) (plain1 (script_plain s)) (by decide) (cellsOk (by kernel_rfl)) ?_
  simp only [go_sem, seval, Script20.av]
  refine ex_call (by exact hW) ?_
  simp only [go_sem, seval, List.length_map]
  refine ex_iter [1, 3, 4] (fun q : Nat × Int => ⟨[(1, .var 1 0), (3, .int .i64 q.2), (4, .int .i64 q.1)], [(1, [.sl false 22 (s.h.map HeldD.av), .sl false 23 (s.l.map Act20.av)])], []⟩)
    (fun q => q.1 ≤ s.l.length ∧ 0 ≤ q.2 ∧ q.2 ≤ 1281474976710656 ∧ weighs20 q.2 (s.l.drop q.1) = weighs20 W s.l) (fun q => s.l.length - q.1) (0, W) ?_ ?_ ?_
  · simp only [ASt.keep, consIf, keepL, keepV, AV.isBot, List.contains_cons, List.contains_nil, Nat.reduceBEq, Bool.or_false, Bool.false_or, Bool.or_true, Bool.true_or, beq_self_eq_true, Bool.false_eq_true, ↓reduceIte, if_false, if_true]
    try rfl
  · exact ⟨Nat.zero_le _, by simp only; omega, by simp only; omega, rfl⟩
  · rintro r ⟨i, n⟩ hinv next
    obtain ⟨hi, hn1, hn2, hw⟩ : i ≤ s.l.length ∧ 0 ≤ n ∧ n ≤ 1281474976710656 ∧ weighs20 n (s.l.drop i) = weighs20 W s.l := hinv
    simp only [go_sem, seval, List.length_map]
    refine ex_joinB 16 (decide (i < s.l.length) && decide (n < 1048576)) ?_ ?_
    · repeat' (first | (refine ex_split (fun h => ?_) (fun h => ?_)) | (with_reducible refine And.intro (by omega) ?_) |
        (simp only [go_sem, seval, List.length_map]))
      all_goals (try simp only [ASt.mk.injEq, List.cons.injEq, Prod.mk.injEq, AV.bool.injEq, true_and, and_true, eq_self])
      all_goals first | (simp_all; done) | (simp_all; omega) | (rw [Bool.eq_iff_iff]; simp only [List.length_map, Bool.or_eq_true, Bool.and_eq_true, Bool.not_eq_true', Bool.not_eq_false', decide_eq_true_eq, decide_eq_false_iff_not, bne_iff_ne, beq_iff_eq, ne_eq, true_iff, iff_true, false_iff, iff_false, Bool.false_eq_true, not_false_eq_true, not_true_eq_false] at *; omega)
    simp only [go_sem, seval]
    refine ex_br (fun hc => ?_) (fun hc => ?_)
    · have hlt : i < s.l.length ∧ n < 1048576 := by simpa using hc
      obtain ⟨b, eb⟩ : ∃ b, s.l[i]? = some b := ⟨_, List.getElem?_eq_getElem hlt.1⟩
      have hbok := hok.l b (List.mem_of_getElem? eb)
      have hb := weightOf_bounds b.t hbok.t
      have v1 : IntKind.i64.wrap (n + 1) = n + 1 := wi64 (by omega) (by omega)
      have v3 : IntKind.i64.wrap (n + 1 + weightOf b.t) = n + 1 + weightOf b.t := wi64 (by omega) (by omega)
      simp only [go_sem, seval, List.length_map, List.getElem?_map, eb, Int.toNat_natCast, Act20.av, v1]
      repeat with_reducible refine And.intro (by first | omega | (simp only [List.length_cons, List.length_append, List.length_nil, List.length_map, List.length_take, List.length_drop, List.length_set]; omega)) ?_
      try simp only [go_sem, seval, List.length_map, List.getElem?_map, eb, Int.toNat_natCast, Act20.av, v1]
      refine ex_call (by exact c_TxWeight b.t hbok.t) ?_
      simp only [go_sem, seval, v1, v3]
      refine next (i + 1, n + 1 + weightOf b.t) _ ⟨by simp only; omega, by simp only; omega, by simp only; omega, by simp only; rw [← weighs20_drop eb hlt.2]; exact hw⟩ (by simp only; omega) ?_
      simp only
      rw [← wi64_nat i (by omega)]
      simp only [ASt.keep, consIf, keepL, keepV, AV.isBot, List.contains_cons, List.contains_nil, Nat.reduceBEq, Bool.or_false, Bool.false_or, Bool.or_true, Bool.true_or, beq_self_eq_true, Bool.false_eq_true, ↓reduceIte, if_false, if_true]
      try rfl
    · have e : weighs20 W s.l = n := by
        rw [← hw]
        rcases Nat.lt_or_ge i s.l.length with h1 | h1
        · refine weighs20_end ?_
          simp at hc
          have := hc (by omega)
          omega
        · rw [List.drop_eq_nil_of_le (by omega)]; rfl
      rw [eh, e]
      have e60 : decide ((s.h.length : Int) > 60) = decide (s.h.length > 60) := decide_congr (by omega)
      cases d1 : decide (n > 5000)
      · simp only [go_sem, seval, d1, List.length_map, e60]
        refine finOne ?_ (fun _ e => by cases e)
        show resOf _ _ [.tmp 2] = _
        simp only [go_sem, seval]
      · simp only [go_sem, seval, d1, List.length_map, e60]
        refine finOne ?_ (fun _ e => by cases e)
        show resOf _ _ [.tmp 2] = _
        simp only [go_sem, seval]
end Go.Proofs.Ytpepfhbfooeoeaa.VA
end
section
namespace Go.Proofs.Ytpepfhbfooeoeaa.VA
set_option maxRecDepth 10000
set_option maxHeartbeats 16000000

def cmpId (a b : Int) : Int := if a < b then -1 else if a > b then 1 else 0
theorem c_place2 (x : HeldD) (hx : x.ok) (hv : validTx x.t = true) (id : Int) : Contract Try.prog 121 [heldC x.t x.n, .int .u64 id] (.int .i64 (cmpId (idTx x.t) id)) := by
  have hI := r_txID x.t hx.t
  rw [if_pos hv, if_pos hv] at hI
  refine contract_of (C := cf 21 [1, 2, 4, 5, 13, 17] (fun _ => [])) (cf_ok _ _ _) (fn := Try.f121) Try.func121 (by kernel_rfl) rfl (by kernel_rfl) (by simp [cf]) (plain2 (held_plain x) (.int _ _)) (by decide) (cellsOk (by kernel_rfl)) ?_
  simp only [go_sem, seval, HeldD.av]
  refine ex_call (by exact hI) ?_
  rcases Decidable.em ((idTx x.t : Int) < id) with h1 | h1
  · have e1 : decide ((idTx x.t : Int) < id) = true := decide_eq_true h1
    simp only [go_sem, seval, e1]
    refine finOne ?_ (fun _ e => by cases e)
    show resOf _ _ [.tmp 4] = _
    simp only [go_sem, seval, cmpId, if_pos h1]
  · have e1 : decide ((idTx x.t : Int) < id) = false := decide_eq_false h1
    rcases Decidable.em ((idTx x.t : Int) > id) with h2 | h2
    · have e2 : decide ((idTx x.t : Int) > id) = true := decide_eq_true h2
      simp only [go_sem, seval, e1, e2]
      refine finOne ?_ (fun _ e => by cases e)
      show resOf _ _ [.tmp 4] = _
      simp only [go_sem, seval, cmpId, if_neg h1, if_pos h2]
    · have e2 : decide ((idTx x.t : Int) > id) = false := decide_eq_false h2
      simp only [go_sem, seval, e1, e2]
      refine finOne ?_ (fun _ e => by cases e)
      show resOf _ _ [.tmp 4] = _
      simp only [go_sem, seval, cmpId, if_neg h1, if_neg h2]

/-- p is the place of an ID: those below it are ahead of it. -/
def PlaceOf (l : List HeldD) (id : Int) (p : Nat) : Prop := p ≤ l.length ∧ ∀ k x, l[k]? = some x → ((idTx x.t : Int) < id ↔ k < p)
def thereAt (l : List HeldD) (id : Int) (p : Nat) : Bool := match l[p]? with
  | some x => decide ((idTx x.t : Int) = id)
  | none => false
theorem cmp_zero (a b : Int) : (cmpId a b == 0) = decide (a = b) := by
  unfold cmpId
  rcases Int.lt_trichotomy a b with h | h | h
  · rw [if_pos h, decide_eq_false (by omega)]; rfl
  · subst h; rw [if_neg (by omega), if_neg (by omega), decide_eq_true rfl]; rfl
  · rw [if_neg (by omega), if_pos h, decide_eq_false (by omega)]; rfl
theorem cmp_neg (a b : Int) : decide (cmpId a b < 0) = decide (a < b) := by
  unfold cmpId
  rcases Int.lt_trichotomy a b with h | h | h
  · rw [if_pos h, decide_eq_true h]; rfl
  · subst h; rw [if_neg (by omega), if_neg (by omega)]; simp
  · rw [if_neg (by omega), if_pos h, decide_eq_false (show ¬ a < b by omega)]; rfl
theorem mid_wrap (i j : Nat) (h : i + j ≤ 9223372036854775807) : IntKind.i64.wrap ((IntKind.u64.wrap (IntKind.i64.wrap ((i : Int) + j))).fdiv (2 ^ min 1 64)) = (((i + j) / 2 : Nat) : Int) := by
  have e1 : IntKind.i64.wrap ((i : Int) + j) = ((i + j : Nat) : Int) := by rw [IntKind.wrap_i64]; omega
  have e2 : IntKind.u64.wrap ((i + j : Nat) : Int) = ((i + j : Nat) : Int) := by rw [IntKind.wrap_u64]; omega
  have e3 : ((i + j : Nat) : Int).fdiv (2 ^ min 1 64) = (((i + j) / 2 : Nat) : Int) := by
    have : (2 : Int) ^ min 1 64 = 2 := by decide
    rw [this, Int.fdiv_eq_ediv_of_nonneg _ (by omega)]; omega
  rw [e1, e2, e3, IntKind.wrap_i64]; omega
theorem c_place (l : List HeldD) (hok : ∀ a ∈ l, a.ok) (hva : ∀ a ∈ l, validTx a.t = true) (hl : l.length ≤ 1000000) (id : Int) (p : Nat) (hp : PlaceOf l id p) : Contract Try.prog 95 [limbo l, .int .u64 id] (.tup [.int .i64 p, .bool (thereAt l id p)]) := by
  obtain ⟨hp1, hp2⟩ := hp
  have hB : Contract Try.prog 120 [limbo l, .int .u64 id, .fn 121] (.tup [.int .i64 p, .bool (thereAt l id p)]) := by
    refine contract_of (C := cf 49 [0, 1, 2, 6, 7, 8, 9, 10, 11, 17, 31] (fun _ => [])) (cf_ok _ _ _) (fn := Try.f120) Try.func120 (by kernel_rfl) rfl (by kernel_rfl) (by simp [cf]) (plain3 (limbo_plain l) (.int _ _) (.fn _)) (by decide) (noCell (by kernel_rfl)) ?_
    simp only [go_sem, seval, limbo, List.length_map]
    refine ex_iter [0, 1, 2, 8, 9, 10] (fun s : Nat × Nat => ⟨[(0, .sl false 22 (l.map HeldD.av)), (1, .int .u64 id), (2, .fn 121), (8, .int .i64 l.length), (9, .int .i64 s.1), (10, .int .i64 s.2)], [], []⟩) (fun s => s.1 ≤ p ∧ p ≤ s.2 ∧ s.2 ≤ l.length) (fun s => s.2 - s.1) (0, l.length) ?_ ?_ ?_
    · simp only [ASt.keep, consIf, keepL, keepV, AV.isBot, List.contains_cons, List.contains_nil, Nat.reduceBEq, Bool.or_false, Bool.false_or, Bool.or_true, Bool.true_or, beq_self_eq_true, Bool.false_eq_true, ↓reduceIte, if_false, if_true]
      try rfl
    · exact ⟨Nat.zero_le _, hp1, Nat.le_refl _⟩
    · rintro n ⟨i, j⟩ ⟨hi, hj, hjl⟩ next
      dsimp only at hi hj hjl next ⊢
      rcases Decidable.em (i < j) with hij | hij
      · have hd : decide ((i : Int) < (j : Int)) = true := decide_eq_true (by omega)
        have hm := mid_wrap i j (by omega)
        have hml : (i + j) / 2 < l.length := by omega
        obtain ⟨x, ex⟩ : ∃ x, l[(i + j) / 2]? = some x := ⟨_, List.getElem?_eq_getElem hml⟩
        have hx := List.mem_of_getElem? ex
        have hc := c_place2 x (hok x hx) (hva x hx) id
        have hpx := hp2 _ x ex
        simp only [go_sem, seval, hd, hm, List.length_map, List.getElem?_map, ex, Option.map_some, Int.toNat_natCast, HeldD.av]
        repeat with_reducible refine And.intro (by first | omega | (simp only [List.length_cons, List.length_append, List.length_nil, List.length_map, List.length_take, List.length_drop, List.length_set]; omega)) ?_
        refine ex_call (by exact hc) ?_
        have hcn := cmp_neg (idTx x.t) id
        rcases Decidable.em ((idTx x.t : Int) < id) with hlt | hlt
        · rw [decide_eq_true hlt] at hcn
          have w1 : IntKind.i64.wrap ((((i + j) / 2 : Nat) : Int) + 1) = (((i + j) / 2 + 1 : Nat) : Int) := by rw [IntKind.wrap_i64]; omega
          simp only [go_sem, seval, hcn, w1]
          refine next ((i + j) / 2 + 1, j) _ ⟨by have := hpx.1 hlt; omega, hj, hjl⟩ (by dsimp only; omega) ?_
          simp only [ASt.keep, consIf, keepL, keepV, AV.isBot, List.contains_cons, List.contains_nil, Nat.reduceBEq, Bool.or_false, Bool.false_or, Bool.or_true, Bool.true_or, beq_self_eq_true, Bool.false_eq_true, ↓reduceIte, if_false, if_true]
          try rfl
        · rw [decide_eq_false hlt] at hcn
          simp only [go_sem, seval, hcn]
          refine next (i, (i + j) / 2) _ ⟨hi, by dsimp only; have : ¬ (i + j) / 2 < p := fun h => hlt (hpx.2 h); omega, by dsimp only; omega⟩ (by dsimp only; omega) ?_
          simp only [ASt.keep, consIf, keepL, keepV, AV.isBot, List.contains_cons, List.contains_nil, Nat.reduceBEq, Bool.or_false, Bool.false_or, Bool.or_true, Bool.true_or, beq_self_eq_true, Bool.false_eq_true, ↓reduceIte, if_false, if_true]
          try rfl
      · have e1 : i = p := by omega
        have e2 : j = p := by omega
        subst e1
        have hd : decide ((i : Int) < (j : Int)) = false := decide_eq_false (by omega)
        rcases Decidable.em (i < l.length) with hil | hil
        · have hd2 : decide ((i : Int) < (l.length : Int)) = true := decide_eq_true (by omega)
          obtain ⟨x, ex⟩ : ∃ x, l[i]? = some x := ⟨_, List.getElem?_eq_getElem hil⟩
          have hx := List.mem_of_getElem? ex
          have hc := c_place2 x (hok x hx) (hva x hx) id
          have hcz := cmp_zero (idTx x.t) id
          have hth : thereAt l id i = decide ((idTx x.t : Int) = id) := by unfold thereAt; rw [ex]
          simp only [go_sem, seval, hd, hd2, List.length_map, List.getElem?_map, ex, Option.map_some, Int.toNat_natCast, HeldD.av]
          repeat with_reducible refine And.intro (by first | omega | (simp only [List.length_cons, List.length_append, List.length_nil, List.length_map, List.length_take, List.length_drop, List.length_set]; omega)) ?_
          refine ex_call (by exact hc) ?_
          simp only [go_sem, seval, hcz]
          refine finTup ?_
          show resOf _ _ [.tmp 6, .tmp 7] = _
          simp only [go_sem, seval, hth]
        · have hd2 : decide ((i : Int) < (l.length : Int)) = false := decide_eq_false (by omega)
          have hth : thereAt l id i = false := by unfold thereAt; rw [List.getElem?_eq_none (by omega)]
          simp only [go_sem, seval, hd, hd2]
          refine finTup ?_
          show resOf _ _ [.tmp 6, .tmp 7] = _
          simp only [go_sem, seval, hth]
  refine contract_of (C := cf 11 [0, 1, 4, 5] (fun _ => [])) (cf_ok _ _ _) (fn := Try.f95) Try.func95 (by kernel_rfl) rfl (by kernel_rfl) (by simp [cf]) (plain2 (limbo_plain l) (.int _ _)) (by decide) (noCell (by kernel_rfl)) ?_
  simp only [go_sem, seval, limbo]
  refine ex_call (by exact hB) ?_
  simp only [go_sem, seval]
  refine finTup ?_
  show resOf _ _ [.tmp 4, .tmp 5] = _
  simp only [go_sem, seval]

/-- The place of an ID: how many are below it. -/
def posOf (l : List HeldD) (id : Int) : Nat := (l.takeWhile fun h => decide ((idTx h.t : Int) < id)).length
def sortedH (l : List HeldD) : Prop := ∀ k x y, l[k]? = some x → l[k + 1]? = some y → idTx x.t < idTx y.t
theorem sorted_lt {l : List HeldD} (h : sortedH l) : ∀ d k x y, l[k]? = some x → l[k + d + 1]? = some y → idTx x.t < idTx y.t
  | 0, k, x, y, e1, e2 => h k x y e1 e2
  | d + 1, k, x, y, e1, e2 => by
    have hlt : k + d + 1 < l.length := by have := (List.getElem?_eq_some_iff.1 e2).1; omega
    obtain ⟨z, ez⟩ : ∃ z, l[k + d + 1]? = some z := ⟨_, List.getElem?_eq_getElem hlt⟩
    exact Int.lt_trans (sorted_lt h d k x z e1 ez) (h (k + d + 1) z y ez e2)
theorem sorted_tail {a : HeldD} {l : List HeldD} (h : sortedH (a :: l)) : sortedH l := fun k x y e1 e2 => h (k + 1) x y (by simpa using e1) (by simpa using e2)
theorem place_pos : ∀ (l : List HeldD) (id : Int), sortedH l → PlaceOf l id (posOf l id)
  | [], id, _ => ⟨Nat.le_refl _, fun k x e => by cases e⟩
  | a :: l, id, h => by
    obtain ⟨h1, h2⟩ := place_pos l id (sorted_tail h)
    unfold posOf at h1 h2 ⊢
    rcases Decidable.em ((idTx a.t : Int) < id) with ha | ha
    · rw [List.takeWhile_cons_of_pos (by simpa using ha)]
      refine ⟨by simp only [List.length_cons]; omega, fun k x e => ?_⟩
      cases k with
      | zero =>
        simp only [List.getElem?_cons_zero, Option.some.injEq] at e
        subst e
        exact ⟨fun _ => Nat.succ_pos _, fun _ => ha⟩
      | succ k =>
        rw [h2 k x (by simpa using e)]
        simp only [List.length_cons]; omega
    · rw [List.takeWhile_cons_of_neg (by simpa using ha)]
      refine ⟨Nat.zero_le _, fun k x e => ⟨fun hx => ?_, fun hk => absurd hk (Nat.not_lt_zero _)⟩⟩
      cases k with
      | zero =>
        simp only [List.getElem?_cons_zero, Option.some.injEq] at e
        subst e
        exact (ha hx).elim
      | succ k =>
        have := sorted_lt h k 0 a x rfl (by simpa using e)
        omega
theorem limbo_sorted {l : List HeldD} (h : limboOk l = true) : l.length ≤ 48 ∧ sortedH l ∧ ∀ a ∈ l, validTx a.t = true := by
  unfold limboOk at h
  simp only [Bool.and_eq_true, decide_eq_true_eq] at h
  obtain ⟨h1, h2⟩ := h
  have hat : ∀ k < l.length, heldAt l k = true := fun k hk => List.all_eq_true.1 h2 k (List.mem_range.2 hk)
  refine ⟨h1, fun k x y e1 e2 => ?_, fun a ha => ?_⟩
  · have := hat (k + 1) (List.getElem?_eq_some_iff.1 e2).1
    rw [heldAt_get e2] at this
    simp only [Bool.and_eq_true, heldAfter, e1, decide_eq_true_eq] at this
    exact this.2
  · obtain ⟨k, hk⟩ := List.getElem?_of_mem ha
    have := hat k (List.getElem?_eq_some_iff.1 hk).1
    rw [heldAt_get hk] at this
    simp only [Bool.and_eq_true, heldOk] at this
    exact this.1.1
end Go.Proofs.Ytpepfhbfooeoeaa.VA
end
section
namespace Go.Proofs.Ytpepfhbfooeoeaa.VA
open Go.RowKit

theorem run_clear_cells {P : Program} (w : World) (t e : TypeId) (z : Value) (ht : P.underlying t = some (.slice e)) (hv : ∀ w, (zeroValue e).run P w = .ok z w) (h0 : 0 < z.cells.size) (h1 : ∀ (q : Nat) c, z.cells[q]? = some c → c.oneCell' = true) (b o n c : Nat) (hn : 0 < n)
    (hc : ∀ j, j < n * z.cells.size → (w.cell? ⟨b, o + j, none⟩).isSome = true) (hf : ∀ j, j < n * z.cells.size → w.frozen? ⟨b, o + j, none⟩ = false) :
    ∃ zs : List Value, zs.length = n * z.cells.size ∧ ∀ ty, (Builtin.clear_ #[t] ty #[.slice (some ⟨b, o, none⟩) n c]).run P w = .ok (.tuple #[]) (w.setCells b o zs) := by
  refine ⟨(Builtin.zeroCells z.cells n).toList, by simp [Builtin.zeroCells], fun ty => ?_⟩
  have hlen : (Builtin.zeroCells z.cells n).toList.length = n * z.cells.size := by simp [Builtin.zeroCells]
  have hst := run_storeCells_cells (P := P) b o (Builtin.zeroCells z.cells n).toList 0 w (by rw [hlen]; simpa using hc) (by rw [hlen]; simpa using hf) (by
    intro v hv'
    simp only [Builtin.zeroCells, Array.toList_map, List.mem_map] at hv'
    obtain ⟨q, _, rfl⟩ := hv'
    have hq := Nat.mod_lt q h0
    rw [getElem!_pos z.cells _ hq]
    exact h1 _ _ (Array.getElem?_eq_getElem hq))
  simp only [Nat.add_zero] at hst
  obtain ⟨m, rfl⟩ : ∃ m, n = m + 1 := ⟨n - 1, by omega⟩
  simp [Builtin.clear_, run_underlying ht, hv, hst]

set_option maxHeartbeats 4000000 in
set_option maxRecDepth 1000000 in
theorem walk_Delete (g n cap i j : Nat) (w : World) (hn : n ≤ cap) (hm : cap ≤ 9223372036854775807) (hij : i < j) (hj : j ≤ n) (news : List Value) (hnl : news.length = (n - j) * 22)
    (hns : ∀ q u, news[q]? = some u → w.cell? ⟨g, j * 22 + q, none⟩ = some u) (hn1 : ∀ u ∈ news, u.oneCell' = true)
    (hc : ∀ o, o < cap * 22 → (w.cell? ⟨g, o, none⟩).isSome = true ∧ w.frozen? ⟨g, o, none⟩ = false) :
    Calls Try.prog 100 #[.slice (some ⟨g, 0, none⟩) n cap, .int .i64 i, .int .i64 j] w fun e w' => e = .returned (.slice (some ⟨g, 0, none⟩) (i + (n - j)) cap) ∧ ∃ zs : List Value, zs.length = (n - (i + (n - j))) * 22 ∧ w' = (w.drew.setCells g (0 + i * 22) news).setCells g ((i + (n - j)) * 22) zs := by
  have hfit := (cf_ok 0 [] (fun _ => [])).fit 90 (by rfl)
  obtain ⟨i0, z0, hi0, hz1, hz2, hz3, hz4, hz5, hz6, hz7⟩ := hfit.info
  obtain ⟨A, hA, hsrc⟩ : ∃ A : Addr, (if cap = j then some (⟨g, 0, none⟩ : Addr) else some ⟨g, j * 22, none⟩) = some A ∧ Hid (∀ q u, news[q]? = some u → w.drew.cell? (A.add q) = some u) := by
    by_cases h : cap = j
    · refine ⟨⟨g, 0, none⟩, by simp [h], fun t u hu => ?_⟩
      have h0 : news.length = 0 := by rw [hnl, show n - j = 0 by omega, Nat.zero_mul]
      rw [List.length_eq_zero_iff.1 h0] at hu
      simp at hu
    · refine ⟨⟨g, j * 22, none⟩, by simp [h], fun t u hu => ?_⟩
      rw [Addr.add_lit]
      exact hns t u hu
  have s1 : Hid (news.length = (n - j) * 22) := hnl
  have s2 : Hid (∀ u ∈ news, u.oneCell' = true) := hn1
  have s3 : Hid (∀ t, t < news.length → (w.drew.cell? ⟨g, 0 + i * 22 + t, none⟩).isSome = true ∧ w.drew.frozen? ⟨g, 0 + i * 22 + t, none⟩ = false) := by
    intro t ht
    exact hc (0 + i * 22 + t) (by omega)
  obtain ⟨W1, hW1⟩ : ∃ W1, W1 = w.drew.setCells g (0 + i * 22) news := ⟨_, rfl⟩
  have hW : Hid (W1 = w.drew.setCells g (0 + i * 22) news) := hW1
  have hic : i ≤ cap := by omega
  have hjc : j ≤ cap := by omega
  have hz3' : z0.cells.size = 22 := hz3
  have hi0' : Try.prog.info? 90 = some i0 := hi0
  have hW1c : ∀ o, o < cap * 22 → (W1.cell? ⟨g, o, none⟩).isSome = true ∧ W1.frozen? ⟨g, o, none⟩ = false := by
    intro o ho
    have hwr := wr_setCells w.drew g (0 + i * 22) news (fun j hj => (s3.out j hj).1)
    rw [← hW1] at hwr
    refine ⟨?_, by rw [hwr.frz]; exact (hc o ho).2⟩
    by_cases hr : o < 0 + i * 22 ∨ 0 + i * 22 + news.length ≤ o
    · rw [hwr.cout o hr]; exact (hc o ho).1
    · have := hwr.cin (o - (0 + i * 22)) (by omega)
      rw [show 0 + i * 22 + (o - (0 + i * 22)) = o by omega] at this
      rw [this, List.getElem?_eq_getElem (by omega)]; rfl
  obtain ⟨zs, hzl, hcl⟩ := run_clear_cells (P := Try.prog) W1 73 90 z0 Try.underlying73 (fun w => by simp [zeroValue, typeInfo, hi0', hz2]) (by omega) (fun q c hq => by
    have hq2 := (Array.getElem?_eq_some_iff.1 hq).1
    have hq3 : q < ((cf 0 [] fun x => []).ti 90).zero.length := by rw [hz4, ← hz3]; exact hq2
    exact zero_one (hz5 q _ c (List.getElem?_eq_getElem hq3) hq)) g ((i + (n - j)) * 22) (n - (i + (n - j))) (cap - (i + (n - j))) (by omega) (fun q hq => by
      rw [hz3'] at hq
      have := (hW1c ((i + (n - j)) * 22 + q) (by omega)).1; exact this) (fun q hq => by
      rw [hz3'] at hq
      have := (hW1c ((i + (n - j)) * 22 + q) (by omega)).2; exact this)
  rw [hz3'] at hzl
  have hne : ¬ cap = i + (n - j) := by omega
  clear hW1 hnl hn1 hns hz2 hz3 hz4 hz5 hz6 hz7 hc hW1c hz3' hi0'
  go_enter Try.func100, Try.ntmps100
  go_wp2_with fail
  go_region_law (refine step_append_room rfl (.tmp 22) (.tmp 25) 73 rfl 90 i0 22 Try.underlying73 hi0 hz1 g 0 i cap (by simp [Act.eval, Act.put]) A (n - j) (cap - j) news (by simp [Act.eval, Act.put]) s1.out hsrc.out s2.out (by omega) s3.out ?_; rw [← hW.out])
  all_goals go_wp2
  all_goals (go_ret; exact ⟨rfl, zs, hzl, by rw [hW.out]⟩)

/-- One element is cut out of a row: what stood behind it moves up. -/
theorem t_Delete (es : List AV) (i : Nat) (hi : i < es.length) : Through Try.prog 100 [.own false 22 es, .int .i64 i, .int .i64 ((i + 1 : Nat) : Int)] (.own false 22 (es.take i ++ es.drop (i + 1))) where
  enters := ⟨_, _, Try.func100, by kernel_rfl, rfl⟩
  calls := by
    intro M I w vs gs hI hv hnd
    match vs, hv with
    | [v0, v1, v2], hv =>
      obtain ⟨g0, gr, rfl, h0, g1, gr', rfl, ⟨h1, rfl⟩, g2, gr2, rfl, ⟨h2, rfl⟩, rfl⟩ := hv
      cases h1
      cases h2
      rcases h0 with ⟨_, e, _⟩ | ⟨g, cap, rfl, rfl, hg, hrow⟩
      · subst e; simp at hi
      have hcell : ∀ o, o < cap * 22 → (w.cell? ⟨g, o, none⟩).isSome = true ∧ w.frozen? ⟨g, o, none⟩ = false := fun o ho => by
        obtain ⟨v, h1, h2⟩ := hrow.cells o ho
        rw [h1]; exact ⟨rfl, h2⟩
      have hle := hrow.le
      have hcm := hrow.capm
      -- what moves up
      obtain ⟨news, hnews⟩ : ∃ news : List Value, news = (List.range ((es.length - (i + 1)) * 22)).map fun q => (w.cell? ⟨g, (i + 1) * 22 + q, none⟩).getD undef := ⟨_, rfl⟩
      have hnl : news.length = (es.length - (i + 1)) * 22 := by rw [hnews]; simp
      have hns : ∀ q u, news[q]? = some u → w.cell? ⟨g, (i + 1) * 22 + q, none⟩ = some u := by
        intro q u hu
        have hq := (List.getElem?_eq_some_iff.1 hu).1
        rw [hnews, List.getElem?_map, List.getElem?_range (by rw [← hnl]; exact hq)] at hu
        obtain ⟨v, hv, _⟩ := hrow.cells ((i + 1) * 22 + q) (by omega)
        rw [hv]
        simp only [Option.map_some, hv, Option.getD_some] at hu
        exact hu
      have hn1 : ∀ u ∈ news, u.oneCell' = true := by
        intro u hu
        obtain ⟨q, hq, rfl⟩ := List.getElem_of_mem hu
        have e1 := hns q _ (List.getElem?_eq_getElem hq)
        obtain ⟨v, ha, hs, hcs⟩ := hrow.elems (i + 1 + q / 22) _ (List.getElem?_eq_getElem (by omega))
        have hm := Nat.mod_lt q (show 0 < 22 by omega)
        have e2 := hcs (q % 22) _ (Array.getElem?_eq_getElem (by rw [hs]; exact hm))
        rw [show (i + 1 + q / 22) * 22 + q % 22 = (i + 1) * 22 + q by omega, e1] at e2
        rw [Option.some.inj e2]
        exact ha.one _ _ (Array.getElem?_eq_getElem (by rw [hs]; exact hm))
      refine (walk_Delete g es.length cap i (i + 1) w hle hcm (by omega) (by omega) news hnl hns hn1 hcell).mono ?_
      rintro e w' ⟨rfl, zs, hzl, rfl⟩
      have hw1 := wr_setCells w.drew g (0 + i * 22) news (fun q hq => (hcell _ (by omega)).1)
      have hc1 : ∀ o, o < cap * 22 → ((w.drew.setCells g (0 + i * 22) news).cell? ⟨g, o, none⟩).isSome = true := by
        intro o ho
        by_cases hr : o < 0 + i * 22 ∨ 0 + i * 22 + news.length ≤ o
        · rw [hw1.cout o hr]; exact (hcell o ho).1
        · have := hw1.cin (o - (0 + i * 22)) (by omega)
          rw [show 0 + i * 22 + (o - (0 + i * 22)) = o by omega] at this
          rw [this, List.getElem?_eq_getElem (by omega)]; rfl
      have hw2 := wr_setCells (w.drew.setCells g (0 + i * 22) news) g ((i + (es.length - (i + 1))) * 22) zs (fun q hq => hc1 _ (by omega))
      have hlen : (es.take i ++ es.drop (i + 1)).length = i + (es.length - (i + 1)) := by simp; omega
      have hsz : ((w.drew.setCells g (0 + i * 22) news).setCells g ((i + (es.length - (i + 1))) * 22) zs).heap.size = w.heap.size := by rw [hw2.size, hw1.size]; rfl
      have hblk : ∀ k, k ≠ g → ((w.drew.setCells g (0 + i * 22) news).setCells g ((i + (es.length - (i + 1))) * 22) zs).heap[k]? = w.heap[k]? := fun k hk => by rw [hw2.block k hk, hw1.block k hk]; rfl
      have hIg : ∀ o, I g o = none := fun o => hrow.immn o (by intro e; cases e)
      refine ⟨_, I, [g], rfl, Imm.leRefl I, ?_, ⟨by rw [hw2.os, hw1.os]; rfl, by rw [hw2.tape, hw1.tape]; rfl, by rw [hw2.output, hw1.output]; rfl, Nat.le_of_eq hsz.symm, fun k hk hn => hblk k (by intro e; subst e; exact hn (by simp)), fun k o u hu => ?_⟩, fun b o u h => .inl h, .inr ⟨g, cap, by rw [hlen], rfl, by rw [hsz]; exact hg, ?_⟩, by simp, ?_⟩
      · intro b o u hu
        have hb : b ≠ g := by intro e; subst e; rw [hIg] at hu; cases hu
        rw [World.cell?_of_block (hblk b hb)]
        exact hI b o u hu
      · obtain ⟨u1, q1⟩ := hw2.dom k o u hu
        obtain ⟨u2, q2⟩ := hw1.dom k o u1 q1
        exact .inl ⟨⟨u2, q2⟩, by rw [hw2.frz, hw1.frz]; rfl⟩
      · refine ⟨by rw [hlen]; omega, hcm, ?_, ?_, (fun e => by cases e), fun o _ => hIg o, fun h o => by rw [hw2.frz, hw1.frz]; exact hrow.frz h o⟩
        · intro o ho
          have hf : ((w.drew.setCells g (0 + i * 22) news).setCells g ((i + (es.length - (i + 1))) * 22) zs).frozen? ⟨g, o, none⟩ = false := by rw [hw2.frz, hw1.frz]; exact (hcell o ho).2
          have hs : (((w.drew.setCells g (0 + i * 22) news).setCells g ((i + (es.length - (i + 1))) * 22) zs).cell? ⟨g, o, none⟩).isSome = true := by
            by_cases hr : o < (i + (es.length - (i + 1))) * 22 ∨ (i + (es.length - (i + 1))) * 22 + zs.length ≤ o
            · rw [hw2.cout o hr]; exact hc1 o ho
            · have := hw2.cin (o - (i + (es.length - (i + 1))) * 22) (by omega)
              rw [show (i + (es.length - (i + 1))) * 22 + (o - (i + (es.length - (i + 1))) * 22) = o by omega] at this
              rw [this, List.getElem?_eq_getElem (by omega)]; rfl
          obtain ⟨v, hv⟩ := Option.isSome_iff_exists.1 hs
          exact ⟨v, hv, hf⟩
        · intro k e he
          have hk := (List.getElem?_eq_some_iff.1 he).1
          rw [hlen] at hk
          by_cases hki : k < i
          · rw [List.getElem?_append_left (by simp; omega), List.getElem?_take_of_lt hki] at he
            obtain ⟨v, ha, hs, hcs⟩ := hrow.elems k e he
            refine ⟨v, ha.mono (fun b hb => .inl hb) (Imm.leRefl I), hs, fun q c hq => ?_⟩
            have hq2 := (Array.getElem?_eq_some_iff.1 hq).1
            rw [hw2.cout _ (by omega), hw1.cout _ (by omega)]
            exact hcs q c hq
          · rw [List.getElem?_append_right (by simp; omega), List.getElem?_drop] at he
            simp only [List.length_take] at he
            rw [show i + 1 + (k - min i es.length) = k + 1 by omega] at he
            obtain ⟨v, ha, hs, hcs⟩ := hrow.elems (k + 1) e he
            refine ⟨v, ha.mono (fun b hb => .inl hb) (Imm.leRefl I), hs, fun q c hq => ?_⟩
            have hq2 := (Array.getElem?_eq_some_iff.1 hq).1
            rw [hs] at hq2
            have e1 := hcs q c hq
            rw [hw2.cout _ (by omega)]
            have e2 := hw1.cin (k * 22 + q - (0 + i * 22)) (by omega)
            rw [show 0 + i * 22 + (k * 22 + q - (0 + i * 22)) = k * 22 + q by omega] at e2
            rw [e2]
            have e3 := hns (k * 22 + q - (0 + i * 22)) _ (List.getElem?_eq_getElem (by omega))
            rw [show (i + 1) * 22 + (k * 22 + q - (0 + i * 22)) = (k + 1) * 22 + q by omega, e1] at e3
            rw [List.getElem?_eq_getElem (by omega)]
            exact e3.symm
      · intro x hx
        have : x = g := by simpa using hx
        subst this
        exact ⟨.inr (by simp), by rw [hsz]; exact hg⟩
    | [], hv => exact hv.elim
    | [_], hv => obtain ⟨_, _, _, _, h⟩ := hv; exact h.elim
    | [_, _], hv => obtain ⟨_, _, _, _, _, _, _, _, h⟩ := hv; exact h.elim
    | _ :: _ :: _ :: _ :: _, hv => obtain ⟨_, _, _, _, _, _, _, _, _, _, _, _, h⟩ := hv; exact h.elim
end Go.Proofs.Ytpepfhbfooeoeaa.VA
end
section
namespace Go.Proofs.Ytpepfhbfooeoeaa.VA
set_option maxRecDepth 10000
set_option maxHeartbeats 16000000

def ownD (f : FuncId) : List Nat := if Nat.beq f 100 = true then [0] else []
theorem ownD_Delete : ownD 100 = [0] := rfl
theorem ownD_Check : ownD 61 = [] := rfl
theorem ownD_place : ownD 95 = [] := rfl
theorem ownD_Helds : ownD 97 = [] := rfl
theorem c_limbo_Check (l : List HeldD) (hl : l.length * 208 ≤ reachBytes) (hok : ∀ a ∈ l, a.ok) : Contract Try.prog 61 [limbo l] (.int .i64 (if limboOk l = true then 0 else 1)) := by
  have hP := c_pool_Limbo l hl hok
  refine contract_of (C := cf 6 [0, 2, 5] (fun _ => [])) (cf_ok _ _ _) (fn := Try.f61) Try.func61 (by kernel_rfl) rfl (by kernel_rfl) (by simp [cf]) (plain1 (limbo_plain l)) (by decide) (noCell (by kernel_rfl)) ?_
  simp only [go_sem, seval, limbo]
  refine ex_call (by exact hP) ?_
  cases limboOk l
  all_goals (
    simp only [go_sem, seval]
    refine finOne ?_ (fun _ e => by cases e)
    show resOf _ _ [.tmp 2] = _
    simp only [go_sem, seval])

def zeroH : HeldD := ⟨⟨0, 0, 0, 0, 0, 0, 0, [], []⟩, 0⟩
def zeroHA : AV := .agg [.int .i64 (0 : Int), .int .i64 (0 : Int), .int .u64 (0 : Int), .int .u64 (0 : Int), .int .u64 (0 : Int), .int .u64 (0 : Int), .int .u64 (0 : Int), .int .u64 (0 : Int), .int .u64 (0 : Int), .int .u64 (0 : Int), .int .u64 (0 : Int), .int .u64 (0 : Int), .int .u64 (0 : Int), .int .u64 (0 : Int), .int .u64 (0 : Int), .int .u64 (0 : Int), .int .u64 (0 : Int), .int .u64 (0 : Int), .int .i64 (0 : Int), .ext nilP, .ext nilP, .int .i64 (0 : Int)]
theorem zeroHA_dull : Dull zeroHA (heldC zeroH.t zeroH.n) := by
  refine dulls_agg ?_
  repeat' (first | exact Dulls.nil | exact Dull.refl _ | exact Dull.nil _ _ | refine Dulls.cons ?_ ?_)
theorem zero_fins (e : Int) : Fins [.own false 22 [], zeroHA, .int .i64 e] [.own false 22 [], heldC zeroH.t zeroH.n, .int .i64 e] := .cons (.dull (.refl _)) (.cons (.dull zeroHA_dull) (.cons (.dull (.refl _)) .nil))
/-- What is pulled: what stays, the one, the error. -/
def pullOf (l : List HeldD) (id : Int) : List HeldD × HeldD × Int :=
  match l[posOf l id]? with
  | some x => if idTx x.t = id then (l.eraseIdx (posOf l id), x, 0) else ([], zeroH, 3)
  | none => ([], zeroH, 3)
theorem c_limbo_Pull_no (l : List HeldD) (id : Int) (hl : l.length * 208 ≤ reachBytes) (hok : ∀ a ∈ l, a.ok) (hno : limboOk l = false) : Contract Try.prog 58 [limbo l, .int .u64 id] (.tup [.own false 22 [], heldC zeroH.t zeroH.n, .int .i64 (1 : Int)]) := by
  have hK := c_limbo_Check l hl hok
  rw [hno, if_neg (by decide)] at hK
  refine contract_of (C := cf 39 [0, 1, 4, 5, 6, 7, 8, 9, 10, 11, 15, 25] ( ownD)) (cf_ok _ _ _) (fn := Try.f58) Try.func58 (by kernel_rfl) rfl (by kernel_rfl) (by simp [cf]) (plain2 (limbo_plain l) (.int _ _)) (by decide) (cellsOk (by kernel_rfl)) ?_
  simp only [go_sem, seval, limbo, ownD_Delete, ownD_Check, ownD_place, ownD_Helds]
  refine ex_call (by exact hK) ?_
  simp only [go_sem, seval, ownD_Delete, ownD_Check, ownD_place, ownD_Helds]
  refine finTupD (vs' := [.own false 22 [], zeroHA, .int .i64 (1 : Int)]) ?_ (zero_fins _)
  show resOf _ _ [.tmp 4, .cell 5 90, .tmp 6] = _
  simp only [go_sem, seval, zeroHA]
theorem c_limbo_Pull (l : List HeldD) (id : Int) (hl : l.length * 208 ≤ reachBytes) (hok : ∀ a ∈ l, a.ok) (hyes : limboOk l = true) : Contract Try.prog 58 [limbo l, .int .u64 id] (.tup [.own false 22 ((pullOf l id).1.map HeldD.av), (pullOf l id).2.1.av, .int .i64 (pullOf l id).2.2]) := by
  obtain ⟨h48, hs, hv⟩ := limbo_sorted hyes
  have hK := c_limbo_Check l hl hok
  have hH := c_pool_Helds l hl hok
  have hP := c_place l hok hv (by omega) id _ (place_pos l id hs)
  have hle := (place_pos l id hs).1
  generalize hp : posOf l id = p at hP hle
  have hq : pullOf l id = match l[p]? with
    | some x => if idTx x.t = id then (l.eraseIdx p, x, 0) else ([], zeroH, 3)
    | none => ([], zeroH, 3) := by rw [← hp]; rfl
  rw [hyes, if_pos rfl] at hK
  refine contract_of (C := cf 39 [0, 1, 4, 5, 6, 7, 8, 9, 10, 11, 15, 25] ( ownD)) (cf_ok _ _ _) (fn := Try.f58) Try.func58 (by kernel_rfl) rfl (by kernel_rfl) (by simp [cf]) (plain2 (limbo_plain l) (.int _ _)) (by decide) (cellsOk (by kernel_rfl)) ?_
  simp only [go_sem, seval, limbo, ownD_Delete, ownD_Check, ownD_place, ownD_Helds]
  refine ex_call (by exact hK) ?_
  simp only [go_sem, seval, ownD_Delete, ownD_Check, ownD_place, ownD_Helds]
  refine ex_call (by exact hP) ?_
  cases ht : thereAt l id p with
  | false =>
    have hq2 : pullOf l id = ([], zeroH, 3) := by
      rw [hq]
      unfold thereAt at ht
      cases e : l[p]? with
      | none => rfl
      | some x => rw [e] at ht; show (if idTx x.t = id then (l.eraseIdx p, x, (0 : Int)) else ([], zeroH, 3)) = _; rw [if_neg (by simpa using ht)]
    rw [hq2]
    simp only [go_sem, seval, ht, ownD_Delete, ownD_Check, ownD_place, ownD_Helds]
    refine finTupD (vs' := [.own false 22 [], zeroHA, .int .i64 (3 : Int)]) ?_ (zero_fins _)
    show resOf _ _ [.tmp 4, .cell 5 90, .tmp 6] = _
    simp only [go_sem, seval, zeroHA]
  | true =>
    obtain ⟨x, ex, hx⟩ : ∃ x, l[p]? = some x ∧ idTx x.t = id := by
      unfold thereAt at ht
      cases e : l[p]? with
      | none => rw [e] at ht; cases ht
      | some x => rw [e] at ht; exact ⟨x, rfl, by simpa using ht⟩
    have hlt := (List.getElem?_eq_some_iff.1 ex).1
    have hq2 : pullOf l id = (l.eraseIdx p, x, 0) := by rw [hq, ex]; show (if idTx x.t = id then _ else _) = _; rw [if_pos hx]
    have hD := t_Delete (l.map HeldD.av) p (by simpa using hlt)
    rw [hq2]
    simp only [go_sem, seval, ht, ownD_Delete, ownD_Check, ownD_place, ownD_Helds]
    refine ex_call (by exact hH) ?_
    simp only [go_sem, seval, List.length_map, List.getElem?_map, ex, Option.map_some, Int.toNat_natCast, HeldD.av, ownD_Delete, ownD_Check, ownD_place, ownD_Helds]
    repeat with_reducible refine And.intro (by first | omega | (simp only [List.length_cons, List.length_append, List.length_nil, List.length_map, List.length_take, List.length_drop, List.length_set]; omega)) ?_
    have w1 : IntKind.i64.wrap ((p : Int) + 1) = ((p + 1 : Nat) : Int) := by rw [IntKind.wrap_i64]; omega
    refine ex_draw [7] [] (.quiet 0 (.quiet 1 (.quiet 2 (.quiet 3 (.quiet 5 (.one 4 (.quiet 6 (.unlock (.one 7 (.quiet 8 (.fin))))))))))) (by kernel_rfl) ?_
    simp only [go_sem, seval, ex_ord_two, ex_ord_three, w1, ownD_Delete, ownD_Check, ownD_place, ownD_Helds]
    have he : (l.eraseIdx p).map HeldD.av = (l.map HeldD.av).take p ++ (l.map HeldD.av).drop (p + 1) := by rw [List.eraseIdx_eq_take_drop_succ, List.map_append, List.map_take, List.map_drop]
    refine ex_through (by exact hD) ?_
    simp only [go_sem, seval, ownD_Delete, ownD_Check, ownD_place, ownD_Helds]
    rw [he]
    refine finTup ?_
    show resOf _ _ [.tmp 4, .cell 5 90, .tmp 6] = _
    simp only [go_sem, seval]
end Go.Proofs.Ytpepfhbfooeoeaa.VA
end
section
namespace Go.Proofs.Ytpepfhbfooeoeaa.VA
set_option maxRecDepth 10000
set_option maxHeartbeats 16000000

theorem t_InsertEnd (es : List AV) (hl : es.length ≤ 1000000) (x : AV) : Through Try.prog 96 [.own false 22 es, .int .i64 es.length, .own false 22 [x]] (.own true 22 (es ++ [x])) := by
  refine through_of (C := cf 95 [0, 1, 2, 6, 7, 8, 9, 16, 22, 31, 68] (fun _ => [])) (cf_ok _ _ _) (fn := Try.f96) Try.func96 (by kernel_rfl) rfl (by kernel_rfl) (by simp [cf]) (by decide) (noCell (by kernel_rfl)) ?_
  simp only [go_sem, seval, List.length_cons, List.length_nil, Int.cast_ofNat_Int]
  refine ⟨by omega, by omega, ?_⟩
  refine finOne ?_ (fun _ e => by cases e)
  show resOf _ _ [.tmp 6] = _
  simp only [go_sem, seval]
end Go.Proofs.Ytpepfhbfooeoeaa.VA
end
section
namespace Go.Proofs.Ytpepfhbfooeoeaa.VA
set_option maxRecDepth 10000
set_option maxHeartbeats 16000000

theorem c_law20_num (e : Int) : Contract Try.prog 53 [.int .i64 e] (.int .i64 e) := by
  refine contract_of (C := cf 4 [0, 2] (fun _ => [])) (cf_ok _ _ _) (fn := Try.f53) Try.func53 (by kernel_rfl) rfl (by kernel_rfl) (by simp [cf]) (plain1 (.int _ e)) (by decide) (noCell (by kernel_rfl)) ?_
  simp only [go_sem, seval]
  refine finOne ?_ (fun _ e => by cases e)
  show resOf _ _ [.tmp 2] = _
  simp only [go_sem, seval]
theorem both_len (b : Int) : ∀ l : List HeldD, (stayOf l b).length + (goneOf l b).length = l.length
  | [] => rfl
  | x :: l => by
    have := both_len b l
    unfold stayOf goneOf at this ⊢
    rw [List.filter_cons, List.filter_cons]
    rcases Decidable.em (b < x.n) with h | h
    · rw [if_pos (decide_eq_true h), if_neg (by simp; omega)]
      simp only [List.length_cons]; omega
    · rw [if_neg (by simpa using h), if_pos (by simp; omega)]
      simp only [List.length_cons]; omega
theorem stay_ok {l : List HeldD} {b : Int} (h : ∀ a ∈ l, a.ok) : ∀ a ∈ stayOf l b, a.ok := fun a ha => h a ((List.mem_filter.1 ha).1)
theorem gone_ok {l : List HeldD} {b : Int} (h : ∀ a ∈ l, a.ok) : ∀ a ∈ goneOf l b, a.ok := fun a ha => h a ((List.mem_filter.1 ha).1)
end Go.Proofs.Ytpepfhbfooeoeaa.VA
end
section
namespace Go.Proofs.Ytpepfhbfooeoeaa.VA
set_option maxRecDepth 10000
set_option maxHeartbeats 16000000

def ownI (f : FuncId) : List Nat := if Nat.beq f 96 = true then [0, 2] else []
theorem ownI_Insert : ownI 96 = [0, 2] := rfl
theorem ownI_ID : ownI 93 = [] := rfl
theorem ownI_Limbo : ownI 94 = [] := rfl
theorem ownI_place : ownI 95 = [] := rfl
theorem ownI_Helds : ownI 97 = [] := rfl
theorem ownI_Copy : ownI 85 = [] := rfl
/-- A push at a place of its own, given what slices.Insert does there. -/
theorem c_Push_at (l : List HeldD) (t : TxD) (n : Int) (p : Nat) (sh : Bool) (r : List AV) (hl : l.length < 48) (hok : ∀ a ∈ l, a.ok) (ht : t.ok) (hv : validTx t = true) (h0 : 0 ≤ n) (h1 : n ≤ 1099511627776) (hy : limboOk l = true) (hp : PlaceOf l (idTx t) p)
    (hth : thereAt l (idTx t) p = false) (hI : Through Try.prog 96 [.own false 22 (l.map HeldD.av), .int .i64 p, .own false 22 [HeldD.av ⟨t, n⟩]] (.own sh 22 r)) :
    Contract Try.prog 49 [limbo l, txE t, .int .i64 n] (.tup [.own sh 22 r, .int .i64 (0 : Int)]) := by
  have hID := r_txID t ht
  rw [if_pos hv, if_pos hv] at hID
  have hL := c_pool_Limbo l (by unfold reachBytes; omega) hok
  rw [hy] at hL
  obtain ⟨_, _, hva⟩ := limbo_sorted hy
  have hP := c_place l hok hva (by omega) _ _ hp
  have hH := c_pool_Helds l (by unfold reachBytes; omega) hok
  have hC := r_txCopy t ht
  have d1 : decide (n < 0) = false := decide_eq_false (by omega)
  have d2 : decide (n > 1099511627776) = false := decide_eq_false (by omega)
  have d3 : decide ((l.length : Int) ≥ 48) = false := decide_eq_false (by omega)
  refine contract_of (C := cf 53 [0, 2, 4, 6, 7, 8, 9, 10, 11, 31, 38, 40] ( ownI)) (cf_ok _ _ _) (fn := Try.f49) Try.func49 (by kernel_rfl) rfl (by kernel_rfl) (by simp [cf]) (plain3 (limbo_plain l) t.plain (.int _ _)) (by decide) (noCell (by kernel_rfl)) ?_
  simp only [go_sem, seval, limbo, TxD.av, TxD.cells, ints, strs, ownI_Insert, ownI_ID, ownI_Limbo, ownI_place, ownI_Helds, ownI_Copy]
  refine ex_call (by exact hID) ?_
  simp only [go_sem, seval, ownI_Insert, ownI_ID, ownI_Limbo, ownI_place, ownI_Helds, ownI_Copy]
  refine ex_call (by exact hL) ?_
  simp only [go_sem, seval, d1, d2, ownI_Insert, ownI_ID, ownI_Limbo, ownI_place, ownI_Helds, ownI_Copy]
  refine ex_call (by exact hP) ?_
  simp only [go_sem, seval, hth, d3, List.length_map, ownI_Insert, ownI_ID, ownI_Limbo, ownI_place, ownI_Helds, ownI_Copy]
  refine ex_draw [] [] (.quiet 0 (.quiet 2 (.quiet 3 (.quiet 5 (.one 1 (.one 4 (.one 6 (.one 7 (.one 8 (.quiet 9 (.quiet 10 (.fin)))))))))))) (by kernel_rfl) ?_
  simp only [go_sem, seval, ex_ord_two, ex_ord_three, ownI_Insert, ownI_ID, ownI_Limbo, ownI_place, ownI_Helds, ownI_Copy]
  refine ex_call (by exact hH) ?_
  simp only [go_sem, seval, ownI_Insert, ownI_ID, ownI_Limbo, ownI_place, ownI_Helds, ownI_Copy]
  refine ex_call (by exact hC) ?_
  simp only [go_sem, seval, ownI_Insert, ownI_ID, ownI_Limbo, ownI_place, ownI_Helds, ownI_Copy]
  refine ex_through (by exact hI) ?_
  simp only [go_sem, seval, ownI_Insert, ownI_ID, ownI_Limbo, ownI_place, ownI_Helds, ownI_Copy]
  refine finTup ?_
  show resOf _ _ [.tmp 6, .tmp 7] = _
  simp only [go_sem, seval]
theorem plain_valid (f n : Int) (p : Nat) (hf : 0 ≤ f ∧ f < 8) (hn : 0 ≤ n ∧ n ≤ 1000000) (hp : p ≤ 1000) : validTx (plainTx f n p) = true := by
  have hf2 : fitsOf [hashOf [98]] [[98]] = 0 := by decide +kernel
  have hc : costOf (plainTx f n p) < U := by
    simp only [costOf, plainTx, U, List.length_cons, List.length_nil]
    show 2 * p * 1 + p * (131072 * 1) + 0 < _
    omega
  simp only [validTx, Bool.and_eq_true, decide_eq_true_eq]
  refine ⟨⟨⟨⟨⟨⟨?_, ?_⟩, ?_, ?_⟩, ?_, ?_⟩, ?_⟩, hf2⟩, hc⟩
  · show (0 : Int) ≤ f; omega
  · show f < 8; omega
  · show 0 ≤ n; omega
  · show n ≤ 1099511627776; omega
  · show (0 : Int) ≤ 1; decide
  · show (1 : Int) ≤ 1073741824; decide
  · show p ≤ 2 * p; omega
theorem c_law20_wakes : Contract Try.prog 56 [] (.bool true) := by
  have hT := c_T 1 2 3 (by decide)
  have hv : validTx (plainTx 1 2 3) = true := plain_valid 1 2 3 (by decide) (by decide) (by decide)
  have hok : (plainTx 1 2 3).ok := plain_ok 1 2 3 (by decide) (by decide) (by decide)
  have hho : HeldD.ok ⟨plainTx 1 2 3, 4⟩ := ⟨hok, by decide⟩
  have hID := c_ref7_ID (plainTx 1 2 3) hok hv
  have hI := t_InsertEnd [] (by decide) (HeldD.av ⟨plainTx 1 2 3, 4⟩)
  have hP := c_Push_at [] (plainTx 1 2 3) 4 0 true _ (by decide) (fun a ha => by cases ha) hok hv (by decide) (by decide) (by rfl) ⟨Nat.le_refl _, fun k x e => by cases e⟩ rfl hI
  have hy : limboOk [⟨plainTx 1 2 3, 4⟩] = true := by
    rw [limbo_yes]
    · rfl
    · intro k hk
      have : k = 0 := by simp at hk; omega
      subst this
      rw [heldAt_get (h := ⟨plainTx 1 2 3, 4⟩) rfl]
      unfold heldOk
      rw [hv]; rfl
  have hL := c_limbo_Pull [⟨plainTx 1 2 3, 4⟩] (idTx (plainTx 1 2 3)) (by decide) (fun a ha => by rw [List.mem_singleton.1 ha]; exact hho) hy
  have hpo : posOf [⟨plainTx 1 2 3, 4⟩] (idTx (plainTx 1 2 3)) = 0 := by
    unfold posOf
    rw [List.takeWhile_cons_of_neg (by simp)]; rfl
  have hpl : pullOf [⟨plainTx 1 2 3, 4⟩] (idTx (plainTx 1 2 3)) = ([], ⟨plainTx 1 2 3, 4⟩, 0) := by
    unfold pullOf
    rw [hpo]
    show (if idTx (plainTx 1 2 3) = idTx (plainTx 1 2 3) then _ else _) = _
    rw [if_pos rfl]; rfl
  rw [hpl] at hL
  have hn := c_law20_num 0
  refine contract_of (C := cf 42 [0, 1, 2, 3, 4, 5] (fun _ => [])) (cf_ok _ _ _) (fn := Try.f56) Try.func56 (by kernel_rfl) rfl (by kernel_rfl) (by simp [cf]) (fun x hx => by cases hx) (by decide) (noCell (by kernel_rfl)) ?_
  generalize plainTx 1 2 3 = t at *
  simp only [go_sem, seval]
  refine ex_call (by exact hT) ?_
  simp only [go_sem, seval, TxD.av, TxD.cells, ints, strs]
  refine ex_call_dull (.cons (dsl _ _ _) (.cons (.refl _) (.cons (.refl _) .nil))) (by exact hP) ?_
  simp only [go_sem, seval, List.map_append, List.map_nil, List.nil_append, List.map_cons]
  refine ex_call (by exact hT) ?_
  simp only [go_sem, seval, TxD.av, TxD.cells, ints, strs]
  refine ex_call (by exact hID) ?_
  simp only [go_sem, seval]
  refine ex_call_dull (.cons (dsl _ _ _) (.cons (.refl _) .nil)) (by exact hL) ?_
  simp only [go_sem, seval, HeldD.av, List.map_nil]
  refine ex_call (by exact hn) ?_
  simp only [go_sem, seval]
  refine ex_call (by exact hn) ?_
  simp only [go_sem, seval, List.length_cons, List.length_nil]
  refine finOne ?_ (fun _ e => by cases e)
  show resOf _ _ [.tmp 0] = _
  simp only [go_sem, seval]
end Go.Proofs.Ytpepfhbfooeoeaa.VA
end
section
namespace Go.Proofs.Ytpepfhbfooeoeaa.VA
set_option maxRecDepth 10000
set_option maxHeartbeats 16000000

def TxD.cellsT (t : TxD) : List AV := [.int .i64 t.frm, .int .i64 t.nonce, .int .u64 (lim t.tip 0), .int .u64 (lim t.tip 1), .int .u64 (lim t.tip 2), .int .u64 (lim t.tip 3), .int .u64 (lim t.cap 0), .int .u64 (lim t.cap 1), .int .u64 (lim t.cap 2), .int .u64 (lim t.cap 3), .int .u64 (lim t.bcap 0), .int .u64 (lim t.bcap 1), .int .u64 (lim t.bcap 2), .int .u64 (lim t.bcap 3), .int .u64 (lim t.value 0), .int .u64 (lim t.value 1), .int .u64 (lim t.value 2), .int .u64 (lim t.value 3), .int .i64 t.gas, .sl true 1 (t.hashes.map (AV.int .u64)), .sl true 1 (t.blobs.map AV.str)]
theorem dull_eq (t : TxD) : t.dull = .agg t.cellsT := rfl
theorem cellsT_len (t : TxD) : t.cellsT.length = 21 := rfl
theorem dulls_map (l : List TxD) (fr : Bool) : Dull (.sl fr 21 (l.map TxD.dull)) (.sl false 21 (l.map TxD.av)) := .sl fr 21 _ _ (by simp) fun j x y hx hy => by
  rw [List.getElem?_map] at hx hy
  cases e : l[j]? with
  | none => rw [e] at hx; cases hx
  | some t => rw [e] at hx hy; cases hx; cases hy; exact t.dull_av
theorem c_tx_CopyT (t : TxD) (h : t.ok) : Contract Try.prog 85 [t.av] (.agg t.cellsT) := by
  refine contract_of (C := cf 12 [1, 2] (fun _ => [])) (cf_ok _ _ _) (fn := Try.f85) Try.func85 (by kernel_rfl) rfl (by kernel_rfl) (by simp [cf]) (plain1 t.plain) (by decide) (cellsOk (by kernel_rfl)) ?_
  simp only [go_sem, seval, TxD.av, TxD.cells, ints, strs]
  refine ex_draw [7, 9] [] (.quiet 0 (.quiet 1 (.quiet 3 (.quiet 4 (.one 2 (.quiet 6 (.one 5 (.unlock (.one 7 (.quiet 8 (.one 9 (.fin)))))))))))) (by kernel_rfl) ?_
  simp only [go_sem, seval]
  refine ex_call (by exact c_Clone_u64 t.hashes h.hashes) ?_
  simp only [go_sem, seval]
  refine ex_call (by exact c_Clone_str t.blobs h.blobs) ?_
  simp only [go_sem, seval]
  refine finOne ?_ (fun _ e => by cases e)
  show resOf _ _ [.cell 2 29] = _
  simp only [go_sem, seval, TxD.cellsT]
end Go.Proofs.Ytpepfhbfooeoeaa.VA
end
section
namespace Go.Proofs.Ytpepfhbfooeoeaa.VA
open Go.RowKit Go.Lib

theorem run_copy_rows {P : Program} (w : World) (dT sT ty elem : TypeId) (b o dLen dCap : Nat) (a : Addr) (sLen sCap : Nat) (cs : List Value) (sz k : Nat)
    (hu : P.underlying dT = some (.slice elem)) (hs : (P.info? elem).map (·.size) = some sz) (hk : k = Nat.min sLen dLen) (hn : cs.length = k * sz)
    (hsrc : ∀ j v, cs[j]? = some v → w.cell? (a.add j) = some v) (hc : ∀ j, j < cs.length → (w.cell? ⟨b, o + j, none⟩).isSome = true) (hf : ∀ j, j < cs.length → w.frozen? ⟨b, o + j, none⟩ = false) (h1 : ∀ v ∈ cs, v.oneCell' = true) :
    (Builtin.copy_ #[dT, sT] ty #[.slice (some ⟨b, o, none⟩) dLen dCap, .slice (some a) sLen sCap]).run P w = .ok (goInt k) (w.setCells b o cs) := by
  have hl := run_loadCells_list (P := P) w a cs hsrc
  have hst := run_storeCells_cells (P := P) b o cs 0 w (by simpa using hc) (by simpa using hf) h1
  cases hq : P.info? elem with
  | none => simp [hq] at hs
  | some i =>
    have hi : i.size = sz := by simpa [hq] using hs
    subst hk
    simp [Builtin.copy_, run_underlying hu, Builtin.lenOf, Builtin.firstCells, sizeOf, typeInfo, hq, hi, ← hn, hl, hst]

set_option maxHeartbeats 4000000 in
set_option maxRecDepth 1000000 in
/-- No room: a new row. -/
theorem walk_InsertGrow (g n cap i vb voff vc : Nat) (cs vs : List Value) (w : World) (hi : i < n) (hnc : n ≤ cap) (hroom : cap < n + 1) (hbig : n ≤ 1000000) (hcl : cs.length = n * 22) (hvl : vs.length = 22)
    (hcs : ∀ j v, cs[j]? = some v → w.cell? ⟨g, j, none⟩ = some v) (hvs : ∀ j v, vs[j]? = some v → w.cell? ⟨vb, voff + j, none⟩ = some v) (h1c : ∀ v ∈ cs, v.oneCell' = true) (h1v : ∀ v ∈ vs, v.oneCell' = true)
    (i0 : TypeInfo) (z0 : Value) (hi0 : Try.prog.info? 90 = some i0) (hz0 : i0.zero = some z0) (hzs : i0.size = 22) (hzc : z0.cells.size = 22) (hzb : i0.bytes ≤ 1000) :
    Calls Try.prog 96 #[.slice (some ⟨g, 0, none⟩) n cap, .int .i64 i, .slice (some ⟨vb, voff, none⟩) 1 vc] w fun e w' =>
      e = .returned (.slice (some ⟨w.heap.size, 0, none⟩) (n + 1) (grownCap w (n + 1) cap 90)) ∧
      w' = (((w.alloc (.cells ((cs.take (i * 22)).toArray ++ Builtin.zeroCells z0.cells (n + 1 - i) ++ Builtin.zeroCells z0.cells (grownCap w (n + 1) cap 90 - (n + 1))) 90)).drew.setCells w.heap.size (i * 22) vs).drew).setCells w.heap.size ((i + 1) * 22) (cs.drop (i * 22)) := by
  have t73 := Try.underlying73
  have t3 := Try.underlying3
  have mixed := (cf_ok 0 [] (fun _ => [])).mixed
  have hz2 : ¬ ((i : Int) = (n : Int)) := by omega
  have hz3 : (cap : Int) < (n : Int) + 1 := by omega
  have hsz : (Try.prog.info? 90).map (·.size) = some 22 := by rw [hi0]; simp [hzs]
  have hbw : g < w.heap.size := World.block_lt_of_cell? _ _ (hcs 0 _ (List.getElem?_eq_getElem (by omega)))
  have hvw : vb < w.heap.size := World.block_lt_of_cell? _ _ (hvs 0 _ (List.getElem?_eq_getElem (by omega)))
  have hkk : (n : Int) + 1 - (i : Int) = ((n + 1 - i : Nat) : Int) := by omega
  have hik : i + (n + 1 - i) = n + 1 := by omega
  have hold : (Builtin.firstCells i0.size i (.slice (some ⟨g, 0, none⟩) i cap)).run Try.prog w.drew = .ok (cs.take (i * 22)).toArray w.drew := by
    rw [hzs]
    exact run_firstCells_some w.drew 22 i ⟨g, 0, none⟩ i cap (cs.take (i * 22)) (by rw [List.length_take]; omega) (fun j v hj => by
      rw [Addr.add_lit, Nat.zero_add]
      rw [List.getElem?_take] at hj
      split at hj
      · exact hcs j v hj
      · cases hj)
  have hrz : ∀ ty, (Builtin.append_ #[73, 3] ty #[.slice (some ⟨g, 0, none⟩) i cap, .int .i64 ((n : Int) + 1 - (i : Int))]).run Try.prog w =
      .ok (.slice (some ⟨w.heap.size, 0, none⟩) (n + 1) (grownCap w (n + 1) cap 90)) (w.drew.alloc (.cells ((cs.take (i * 22)).toArray ++ Builtin.zeroCells z0.cells (n + 1 - i) ++ Builtin.zeroCells z0.cells (grownCap w (n + 1) cap 90 - (n + 1))) 90)) := fun ty => by
    have hb1 : (n + 1 - i) * i0.bytes ≤ 281474976710656 := Nat.le_trans (Nat.mul_le_mul (show n + 1 - i ≤ 1000001 by omega) hzb) (by decide)
    have hb2 : (n + 1) * i0.bytes ≤ 140737488355328 := Nat.le_trans (Nat.mul_le_mul (show n + 1 ≤ 1000001 by omega) hzb) (by decide)
    have h := Lib.run_append_grow_zeros w 73 3 ty 90 i0 _ .i64 .i64 t73 t3 hi0 hz0 (some ⟨g, 0, none⟩) i cap (cs.take (i * 22)) hold (n + 1 - i) (by omega) (by omega) (by omega) (by omega) hb1 (by rw [hik]; exact growslice_fits hroom hb2)
    rw [hik] at h
    rw [hkk]
    exact h
  obtain ⟨G, hG⟩ : ∃ G, G = grownCap w (n + 1) cap 90 := ⟨_, rfl⟩
  obtain ⟨ROW, hROW⟩ : ∃ ROW : Array Value, ROW = (cs.take (i * 22)).toArray ++ Builtin.zeroCells z0.cells (n + 1 - i) ++ Builtin.zeroCells z0.cells (G - (n + 1)) := ⟨_, rfl⟩
  rw [← hG] at hrz ⊢
  rw [← hROW] at hrz ⊢
  have hRl : (n + 1) * 22 ≤ ROW.size := by
    rw [hROW]
    simp [Builtin.zeroCells, hzc]
    omega
  obtain ⟨W1, hW1⟩ : ∃ W1, W1 = w.drew.alloc (.cells ROW 90) := ⟨_, rfl⟩
  rw [← hW1] at hrz
  have hN : ∀ j, j < (n + 1) * 22 → (W1.cell? ⟨w.heap.size, j, none⟩).isSome = true := fun j hj => by
    rw [hW1, World.cell?_alloc_at (w := w.drew) ROW _ w.heap.size j rfl, Array.getElem?_eq_getElem (by omega)]; rfl
  have hNf : ∀ j, W1.frozen? ⟨w.heap.size, j, none⟩ = false := fun j => by rw [hW1]; exact World.frozen?_alloc_at (w := w.drew) ROW _ w.heap.size j rfl
  have hOb : ∀ j v, w.cell? ⟨g, j, none⟩ = some v → W1.cell? ⟨g, j, none⟩ = some v := fun j v h => by rw [hW1, World.cell?_alloc_past (w := w.drew) _ g j hbw]; exact h
  have hOv : ∀ j v, w.cell? ⟨vb, j, none⟩ = some v → W1.cell? ⟨vb, j, none⟩ = some v := fun j v h => by rw [hW1, World.cell?_alloc_past (w := w.drew) _ vb j hvw]; exact h
  have hcpA : ∀ (W : World), (∀ x, W.cell? x = W1.cell? x) → (∀ x, W.frozen? x = W1.frozen? x) → ∀ ty dc, (Builtin.copy_ #[73, 73] ty #[.slice (some ⟨w.heap.size, i * 22, none⟩) (n + 1 - i) dc, .slice (some ⟨vb, voff, none⟩) 1 vc]).run Try.prog W = .ok (goInt 1) (W.setCells w.heap.size (i * 22) vs) := fun W hWc hWf ty dc =>
    run_copy_rows W _ _ ty 90 w.heap.size (i * 22) (n + 1 - i) dc ⟨vb, voff, none⟩ 1 vc vs 22 1 t73 hsz (by simp only [Nat.min_def]; split <;> omega) (by omega)
      (fun j v hj => by rw [Addr.add_lit, hWc]; exact hOv _ v (hvs j v hj))
      (fun j hj => by rw [hWc]; exact hN _ (by omega)) (fun j hj => by rw [hWf]; exact hNf _) h1v
  have hGn : n + 1 ≤ G := by rw [hG]; exact grownCap_ge w _ _ _
  have hG63 : G ≤ 9223372036854775807 := by
    have := grownCap_le_maxLen w (n + 1) cap 90 (by unfold maxLen; omega)
    rw [← hG] at this
    unfold maxLen at this
    omega
  have hGi : ¬ (G = i) := by omega
  have hGim : ¬ (G = i + 1) := by omega
  have hci : ¬ (cap = i) := by omega
  have hbN : g ≠ w.heap.size := by omega
  have hdl : (cs.drop (i * 22)).length = (n - i) * 22 := by rw [List.length_drop, hcl]; omega
  have hcpB : ∀ (W : World), (∀ x, W.cell? x = (W1.setCells w.heap.size (i * 22) vs).cell? x) → (∀ x, W.frozen? x = (W1.setCells w.heap.size (i * 22) vs).frozen? x) → ∀ ty dc sc, (Builtin.copy_ #[73, 73] ty #[.slice (some ⟨w.heap.size, (i + 1) * 22, none⟩) (n + 1 - (i + 1)) dc, .slice (some ⟨g, i * 22, none⟩) (n - i) sc]).run Try.prog W = .ok (goInt ((n - i : Nat) : Int)) (W.setCells w.heap.size ((i + 1) * 22) (cs.drop (i * 22))) := fun W hWc hWf ty dc sc =>
    run_copy_rows W _ _ ty 90 w.heap.size ((i + 1) * 22) (n + 1 - (i + 1)) dc ⟨g, i * 22, none⟩ (n - i) sc (cs.drop (i * 22)) 22 (n - i) t73 hsz (by simp only [Nat.min_def]; split <;> omega) hdl
      (fun j v hj => by
        rw [Addr.add_lit, hWc, World.cell?_setCells_out _ _ _ _ _ (fun h _ => absurd h hbN)]
        exact hOb _ v (hcs (i * 22 + j) v (by rwa [List.getElem?_drop] at hj)))
      (fun j hj => by rw [hWc]; exact isSome_setCells _ _ _ _ (fun t ht => hN _ (by omega)) _ (hN _ (by omega)))
      (fun j hj => by rw [hWf, World.frozen?_setCells]; exact hNf _) (fun v hv => h1c v (List.mem_of_mem_drop hv))
  subst hW1
  have hE1 : ∀ x, ((w.alloc (.cells ROW 90)).drew).cell? x = (w.drew.alloc (.cells ROW 90)).cell? x := fun x => rfl
  have hE2 : ∀ x, ((w.alloc (.cells ROW 90)).drew).frozen? x = (w.drew.alloc (.cells ROW 90)).frozen? x := fun x => rfl
  have hF1 : ∀ x, (((w.alloc (.cells ROW 90)).drew.setCells w.heap.size (i * 22) vs).drew).cell? x = ((w.drew.alloc (.cells ROW 90)).setCells w.heap.size (i * 22) vs).cell? x := fun x => rfl
  have hF2 : ∀ x, (((w.alloc (.cells ROW 90)).drew.setCells w.heap.size (i * 22) vs).drew).frozen? x = ((w.drew.alloc (.cells ROW 90)).setCells w.heap.size (i * 22) vs).frozen? x := fun x => rfl
  have hw1 : IntKind.i64.wrap ((i : Int) + 1) = (i : Int) + 1 := by rw [IntKind.wrap_i64]; omega
  have hb1 : (0 : Int) ≤ (i : Int) + 1 := by omega
  have hin : i ≤ n := by omega
  have htn : ((i : Int) + 1).toNat = i + 1 := by omega
  have hb3 : (i : Int) ≤ (n : Int) := by omega
  clear hkk hik hold hROW hG hRl
  go_enter Try.func96, Try.ntmps96
  go_wp2_with (first
    | (at_builtin; refine Lib.wpList_append_run _ rfl _ _ _ _ rfl _ _ rfl rfl _ _ (hrz _) ?_)
    | (at_builtin; refine wpList_copy_runI _ rfl _ _ 73 73 rfl _ _ rfl rfl (hcpA _ hE1 hE2 _ _) ?_)
    | (at_builtin; refine wpList_copy_runI _ rfl _ _ 73 73 rfl _ _ rfl rfl (hcpB _ (fun _ => rfl) (fun _ => rfl) _ _ _) ?_))
  go_region_law_o (refine step_copy_runI rfl _ _ 73 73 rfl (.slice (some ⟨w.heap.size, (i + 1) * 22, none⟩) (n + 1 - (i + 1)) (G - (i + 1))) (.slice (some ⟨g, i * 22, none⟩) (n - i) (cap - i)) (by simp [Act.eval, Act.put]) (by simp [Act.eval, Act.put]) (hcpB _ hF1 hF2 3 (G - (i + 1)) (cap - i)) ?_)
  go_wp2
  go_ret
  exact ⟨rfl, rfl⟩

set_option maxHeartbeats 4000000 in
set_option maxRecDepth 1000000 in
/-- There is room: in place. -/
theorem walk_InsertRoom (g n cap i vb voff vc : Nat) (cs vs : List Value) (w : World) (hi : i < n) (hroom : n + 1 ≤ cap) (hc63 : cap ≤ 9223372036854775807) (hvb : vb ≠ g) (hcl : cs.length = n * 22) (hvl : vs.length = 22)
    (hcs : ∀ j v, cs[j]? = some v → w.cell? ⟨g, j, none⟩ = some v) (hsp : ∀ j, j < (n + 1) * 22 → (w.cell? ⟨g, j, none⟩).isSome = true) (hfz : ∀ j, j < (n + 1) * 22 → w.frozen? ⟨g, j, none⟩ = false)
    (hvs : ∀ j v, vs[j]? = some v → w.cell? ⟨vb, voff + j, none⟩ = some v) (h1c : ∀ v ∈ cs, v.oneCell' = true) (h1v : ∀ v ∈ vs, v.oneCell' = true)
    (i0 : TypeInfo) (hi0 : Try.prog.info? 90 = some i0) (hzs : i0.size = 22) (hz : ∀ w : World, (Go.sizeOf 90).run Try.prog w = .ok 22 w)
    (tA tB : TypeId) (kA kB : Nat) (hsa : w.shape? vb = some (tA, kA)) (hsb : w.shape? g = some (tB, kB)) (hkB : kB ≠ 0) (hfa : w.frozen? ⟨vb, voff, none⟩ = false) (hfe : w.frozen? ⟨vb, kA, none⟩ = false) :
    Calls Try.prog 96 #[.slice (some ⟨g, 0, none⟩) n cap, .int .i64 i, .slice (some ⟨vb, voff, none⟩) 1 vc] w fun e w' =>
      e = .returned (.slice (some ⟨g, 0, none⟩) (n + 1) cap) ∧ w' = (w.drew.setCells g ((i + 1) * 22) (cs.drop (i * 22))).setCells g (i * 22) vs := by
  have t73 := Try.underlying73
  have mixed := (cf_ok 0 [] (fun _ => [])).mixed
  have hz2 : ¬ ((i : Int) = (n : Int)) := by omega
  have hsz : (Try.prog.info? 90).map (·.size) = some 22 := by rw [hi0]; simp [hzs]
  have hov : ∀ lb cb, (callFunc 122 #[.slice (some ⟨vb, voff, none⟩) 1 vc, .slice (some ⟨g, (i + 1) * 22, none⟩) lb cb]).run Try.prog w = .ok (.value (.bool false)) w := fun lb cb => by
    rw [run_callFunc_extern Try.func122 (by kernel_rfl) (by kernel_rfl) (by kernel_rfl) (e := Extern.SlicesOverlaps.overlaps #[73, 73] #[4]) (by kernel_rfl),
      Lib.run_overlaps_apart w 73 4 90 t73 22 hz ⟨vb, voff, none⟩ ⟨g, (i + 1) * 22, none⟩ 1 vc lb cb hvb tA tB kA kB hsa hsb hkB hfa hfe]
    rfl
  have hdl : (cs.drop (i * 22)).length = (n - i) * 22 := by rw [List.length_drop, hcl]; omega
  have hw1 : IntKind.i64.wrap ((i : Int) + 1) = (i : Int) + 1 := by rw [IntKind.wrap_i64]; omega
  have hb1 : (0 : Int) ≤ (i : Int) + 1 := by omega
  have hin : i ≤ n := by omega
  have htn : ((i : Int) + 1).toNat = i + 1 := by omega
  have hb2 : ¬ (cap = i + 1) := by omega
  have hb3 : (i : Int) ≤ (n : Int) + 1 := by omega
  have hb4 : ¬ (cap = i) := by omega
  have hcp1 : ∀ ty dc sc, (Builtin.copy_ #[73, 73] ty #[.slice (some ⟨g, (i + 1) * 22, none⟩) (n + 1 - (i + 1)) dc, .slice (some ⟨g, i * 22, none⟩) (n + 1 - i) sc]).run Try.prog w.drew = .ok (goInt ((n - i : Nat) : Int)) (w.drew.setCells g ((i + 1) * 22) (cs.drop (i * 22))) := fun ty dc sc =>
    run_copy_rows w.drew _ _ ty 90 g ((i + 1) * 22) (n + 1 - (i + 1)) dc ⟨g, i * 22, none⟩ (n + 1 - i) sc (cs.drop (i * 22)) 22 (n - i) t73 hsz (by simp only [Nat.min_def]; split <;> omega) hdl
      (fun j v hj => by rw [Addr.add_lit]; exact hcs (i * 22 + j) v (by rwa [List.getElem?_drop] at hj))
      (fun j hj => hsp _ (by omega)) (fun j hj => hfz _ (by omega)) (fun v hv => h1c v (List.mem_of_mem_drop hv))
  obtain ⟨W1, hW1⟩ : ∃ W1, W1 = w.drew.setCells g ((i + 1) * 22) (cs.drop (i * 22)) := ⟨_, rfl⟩
  have hsp1 : ∀ k, k < (n + 1) * 22 → (W1.cell? ⟨g, k, none⟩).isSome = true := fun k hk => by
    rw [hW1]
    exact isSome_setCells g _ _ _ (fun j hj => by
      have := hsp ((i + 1) * 22 + j) (by omega)
      exact this) _ (hsp k hk)
  have hcp2 : ∀ (W : World), (∀ x, W.cell? x = W1.cell? x) → (∀ x, W.frozen? x = W1.frozen? x) → ∀ ty dc, (Builtin.copy_ #[73, 73] ty #[.slice (some ⟨g, i * 22, none⟩) (n + 1 - i) dc, .slice (some ⟨vb, voff, none⟩) 1 vc]).run Try.prog W = .ok (goInt 1) (W.setCells g (i * 22) vs) := fun W hWc hWf ty dc =>
    run_copy_rows W _ _ ty 90 g (i * 22) (n + 1 - i) dc ⟨vb, voff, none⟩ 1 vc vs 22 1 t73 hsz (by simp only [Nat.min_def]; split <;> omega) (by omega)
      (fun j v hj => by
        rw [Addr.add_lit, hWc, hW1, World.cell?_setCells_out g _ _ _ _ (fun h _ => absurd h hvb)]
        exact hvs j v hj)
      (fun j hj => by rw [hWc]; exact hsp1 _ (by omega)) (fun j hj => by rw [hWf, hW1, World.frozen?_setCells]; exact hfz _ (by omega)) h1v
  rw [← hW1] at hcp1
  go_enter Try.func96, Try.ntmps96
  go_wp2_with (simp only [hov])
  go_region_law_o (refine step_copy_runI rfl _ _ 73 73 rfl (.slice (some ⟨g, (i + 1) * 22, none⟩) (n + 1 - (i + 1)) (cap - (i + 1))) (.slice (some ⟨g, i * 22, none⟩) (n + 1 - i) (cap - i)) (by simp [Act.eval, Act.put]) (by simp [Act.eval, Act.put]) (hcp1 3 (cap - (i + 1)) (cap - i)) ?_)
  go_wp2_with (at_builtin; refine wpList_copy_runI _ rfl _ _ 73 73 rfl _ _ rfl rfl (hcp2 _ (fun _ => rfl) (fun _ => rfl) _ _) ?_)
  go_ret
  first | exact ⟨rfl, rfl⟩ | exact ⟨rfl, by rw [hW1]⟩
end Go.Proofs.Ytpepfhbfooeoeaa.VA
end
section
namespace Go.Proofs.Ytpepfhbfooeoeaa.VA
open Go.RowKit

theorem row_cells {M : Nat → Prop} {I : Imm} {w : World} {g : Nat} {sh : Bool} {sz : Nat} {es : List AV} {cap : Nat} (h : Row M I w g sh sz es cap) (h0 : 0 < sz) :
    ∃ cs : List Value, cs.length = es.length * sz ∧ (∀ (j : Nat) v, cs[j]? = some v → w.cell? ⟨g, j, none⟩ = some v) ∧ (∀ v ∈ cs, v.oneCell' = true) := by
  have key : ∀ q, q < es.length * sz → ∃ c, w.cell? ⟨g, q, none⟩ = some c ∧ c.oneCell' = true := by
    intro q hq
    have hk : q / sz < es.length := Nat.div_lt_of_lt_mul (by rw [Nat.mul_comm]; exact hq)
    obtain ⟨v, ha, hs, hcs⟩ := h.elems (q / sz) _ (List.getElem?_eq_getElem hk)
    have hm := Nat.mod_lt q h0
    have e2 := hcs (q % sz) _ (Array.getElem?_eq_getElem (by rw [hs]; exact hm))
    rw [show q / sz * sz + q % sz = q by rw [Nat.mul_comm]; exact Nat.div_add_mod q sz] at e2
    exact ⟨_, e2, ha.one _ _ (Array.getElem?_eq_getElem (by rw [hs]; exact hm))⟩
  have hget : ∀ (j : Nat) v, ((List.range (es.length * sz)).map fun q => (w.cell? ⟨g, q, none⟩).getD undef)[j]? = some v → ∃ c, w.cell? ⟨g, j, none⟩ = some c ∧ c = v ∧ c.oneCell' = true := by
    intro j v hj
    have hlt : j < es.length * sz := by have := (List.getElem?_eq_some_iff.1 hj).1; simpa using this
    obtain ⟨c, hc, h1⟩ := key j hlt
    rw [List.getElem?_map, List.getElem?_range hlt] at hj
    simp only [Option.map_some, hc, Option.getD_some, Option.some.injEq] at hj
    exact ⟨c, hc, hj, h1⟩
  refine ⟨(List.range (es.length * sz)).map fun q => (w.cell? ⟨g, q, none⟩).getD undef, by simp, fun j v hj => ?_, fun v hv => ?_⟩
  · obtain ⟨c, hc, rfl, _⟩ := hget j v hj
    exact hc
  · obtain ⟨j, hj⟩ := List.getElem?_of_mem hv
    obtain ⟨c, _, rfl, h1⟩ := hget j v hj
    exact h1

theorem ins_elems {M : Nat → Prop} {I : Imm} {w : World} {g vb : Nat} {sh sv : Bool} {es : List AV} {x : AV} {cap vc : Nat} (hrow : Row M I w g sh 22 es cap) (hv : Row M I w vb sv 22 [x] vc) (i : Nat) (hi : i ≤ es.length) (cs vs : List Value)
    (hcl : cs.length = es.length * 22) (hvl : vs.length = 22) (hcs : ∀ (j : Nat) v, cs[j]? = some v → w.cell? ⟨g, j, none⟩ = some v) (hvs : ∀ (j : Nat) v, vs[j]? = some v → w.cell? ⟨vb, j, none⟩ = some v)
    (C : Nat → Option Value) (ha : ∀ o, o < i * 22 → C o = cs[o]?) (hb : ∀ q, q < 22 → C (i * 22 + q) = vs[q]?) (hc : ∀ j, j < (es.length - i) * 22 → C ((i + 1) * 22 + j) = cs[i * 22 + j]?) :
    ∀ (k : Nat) e, (es.take i ++ x :: es.drop i)[k]? = some e → ∃ v, AR M I e v ∧ v.cells.size = 22 ∧ ∀ (j : Nat) c, v.cells[j]? = some c → C (k * 22 + j) = some c := by
  intro k e he
  have hcs2 : ∀ (k : Nat) e, es[k]? = some e → ∃ v, AR M I e v ∧ v.cells.size = 22 ∧ ∀ (j : Nat) c, v.cells[j]? = some c → cs[k * 22 + j]? = some c := by
    intro k e he
    have hk := (List.getElem?_eq_some_iff.1 he).1
    obtain ⟨v, h1, h2, h3⟩ := hrow.elems k e he
    refine ⟨v, h1, h2, fun j c hj => ?_⟩
    have hj2 := (Array.getElem?_eq_some_iff.1 hj).1
    rw [h2] at hj2
    have e1 := hcs (k * 22 + j) _ (List.getElem?_eq_getElem (by omega))
    rw [h3 j c hj] at e1
    rw [List.getElem?_eq_getElem (by omega)]
    exact e1.symm
  by_cases h1 : k < i
  · rw [List.getElem?_append_left (by simp; omega), List.getElem?_take_of_lt h1] at he
    obtain ⟨v, q1, q2, q3⟩ := hcs2 k e he
    refine ⟨v, q1, q2, fun j c hj => ?_⟩
    have hj2 := (Array.getElem?_eq_some_iff.1 hj).1
    rw [q2] at hj2
    rw [ha _ (by omega)]
    exact q3 j c hj
  · rw [List.getElem?_append_right (by simp; omega)] at he
    have hlen : (es.take i).length = i := by simp; omega
    rw [hlen] at he
    by_cases h2 : k = i
    · subst h2
      rw [Nat.sub_self, List.getElem?_cons_zero] at he
      cases he
      obtain ⟨v, q1, q2, q3⟩ := hv.elems 0 x rfl
      refine ⟨v, q1, q2, fun j c hj => ?_⟩
      have hj2 := (Array.getElem?_eq_some_iff.1 hj).1
      rw [q2] at hj2
      rw [hb j hj2]
      have e1 := hvs j _ (List.getElem?_eq_getElem (by omega))
      have e2 := q3 j c hj
      rw [show 0 * 22 + j = j by omega, e1] at e2
      rw [List.getElem?_eq_getElem (by omega)]
      exact e2
    · obtain ⟨d, rfl⟩ : ∃ d, k = i + 1 + d := ⟨k - (i + 1), by omega⟩
      rw [show i + 1 + d - i = d + 1 by omega, List.getElem?_cons_succ, List.getElem?_drop] at he
      have hk := (List.getElem?_eq_some_iff.1 he).1
      obtain ⟨v, q1, q2, q3⟩ := hcs2 (i + d) e he
      refine ⟨v, q1, q2, fun j c hj => ?_⟩
      have hj2 := (Array.getElem?_eq_some_iff.1 hj).1
      rw [q2] at hj2
      rw [show (i + 1 + d) * 22 + j = (i + 1) * 22 + (d * 22 + j) by omega, hc _ (by omega), show i * 22 + (d * 22 + j) = (i + d) * 22 + j by omega]
      exact q3 j c hj

theorem t_Insert (es : List AV) (x : AV) (i : Nat) (hi : i < es.length) (hbig : es.length ≤ 1000000) : Through Try.prog 96 [.own false 22 es, .int .i64 i, .own false 22 [x]] (.own false 22 (es.take i ++ x :: es.drop i)) where
  enters := ⟨_, _, Try.func96, by kernel_rfl, rfl⟩
  calls := by
    intro M I w vs gs hI hv hnd
    match vs, hv with
    | [v0, v1, v2], hv =>
      obtain ⟨g0, gr, rfl, h0, g1, gr', rfl, ⟨h1, rfl⟩, g2, gr2, rfl, h2, rfl⟩ := hv
      cases h1
      rcases h0 with ⟨_, e, _⟩ | ⟨g, cap, rfl, rfl, hg, hrow⟩
      · subst e; simp at hi
      rcases h2 with ⟨_, e, _⟩ | ⟨vb, vc, rfl, rfl, hvb, hvrow⟩
      · cases e
      have hne : vb ≠ g := by
        intro e
        subst e
        simp at hnd
      obtain ⟨cs, hcl, hcs, h1c⟩ := row_cells hrow (by decide)
      obtain ⟨vs, hvl, hvs, h1v⟩ := row_cells hvrow (by decide)
      have hvl : vs.length = 22 := hvl
      have hle := hrow.le
      have hcm := hrow.capm
      have hIg : ∀ o, I g o = none := fun o => hrow.immn o (fun e => by cases e)
      have hlen : (es.take i ++ x :: es.drop i).length = es.length + 1 := by simp; omega
      obtain ⟨i0, z0, hi0, hs0, hb0, hbp, hz0, hzc, _⟩ : ∃ i0 z0, Try.prog.info? 90 = some i0 ∧ i0.size = 22 ∧ i0.bytes = 208 ∧ 0 < 208 ∧ i0.zero = some z0 ∧ z0.cells.size = 22 ∧ 0 < 22 := by
        have hk := ((cf_ok 0 [] (fun _ => [])).fit 73 (by rfl)).kind
        have e : ((cf 0 [] fun _ => []).ti 73).kind = .slice 90 22 208 := by rfl
        rw [e] at hk
        obtain ⟨_, i0, z0, k1, k2, k3, k4, k5, k6, k7⟩ := hk
        exact ⟨i0, z0, k1, k2, k3, k4, k5, k6, k7⟩
      have done : ∀ (G cap' : Nat) (w' : World), Fr w w' (· ∈ [g] ++ ([] ++ ([vb] ++ []))) → (w.heap.size ≤ G ∨ G ∈ [g] ++ ([] ++ ([vb] ++ []))) → G < w'.heap.size → (∀ o, I G o = none) → Imm.ok I w' → es.length + 1 ≤ cap' → cap' ≤ maxLen →
          (∀ o, o < cap' * 22 → ∃ v, w'.cell? ⟨G, o, none⟩ = some v) → (∀ o, w'.frozen? ⟨G, o, none⟩ = false) → (∀ o, o < i * 22 → w'.cell? ⟨G, o, none⟩ = cs[o]?) → (∀ q, q < 22 → w'.cell? ⟨G, i * 22 + q, none⟩ = vs[q]?) → (∀ j, j < (es.length - i) * 22 → w'.cell? ⟨G, (i + 1) * 22 + j, none⟩ = cs[i * 22 + j]?) →
          ∃ v I' gs', Ending.returned (.slice (some ⟨G, 0, none⟩) (es.length + 1) cap') = .returned v ∧ Imm.le I I' ∧ Imm.ok I' w' ∧ Fr w w' (· ∈ [g] ++ ([] ++ ([vb] ++ []))) ∧
            (∀ b o u, I' b o = some u → I b o = some u ∨ w.heap.size ≤ b ∨ b ∈ [g] ++ ([] ++ ([vb] ++ []))) ∧ RRep (fun b => M b ∨ w.heap.size ≤ b ∨ b ∈ [g] ++ ([] ++ ([vb] ++ []))) I' w' (.own false 22 (es.take i ++ x :: es.drop i)) v gs' ∧ gs'.Nodup ∧
            ∀ q, q ∈ gs' → (w.heap.size ≤ q ∨ q ∈ [g] ++ ([] ++ ([vb] ++ []))) ∧ q < w'.heap.size := by
        intro G cap' w' hF hG hGs hIG hok hcap hcapm hcells hfrz ha hb hc
        refine ⟨_, I, [G], rfl, Imm.leRefl I, hok, hF, fun b o u h => .inl h, .inr ⟨G, cap', by rw [hlen], rfl, hGs, ?_⟩, by simp, fun q hq => ?_⟩
        · refine ⟨by rw [hlen]; exact hcap, hcapm, fun o ho => ?_, fun k e he => ?_, (fun e => by cases e), fun o _ => hIG o, fun _ => hfrz⟩
          · obtain ⟨v, hv⟩ := hcells o ho
            exact ⟨v, hv, hfrz o⟩
          · obtain ⟨v, q1, q2, q3⟩ := ins_elems hrow hvrow i (by omega) cs vs hcl hvl hcs hvs (fun o => w'.cell? ⟨G, o, none⟩) ha hb hc k e he
            exact ⟨v, q1.mono (fun b hb => .inl hb) (Imm.leRefl I), q2, q3⟩
        · rw [List.mem_singleton] at hq
          subst hq
          exact ⟨hG, hGs⟩
      rcases Nat.lt_or_ge cap (es.length + 1) with hroom | hroom
      · refine (walk_InsertGrow g es.length cap i vb 0 vc cs vs w hi hle hroom hbig hcl hvl hcs (fun j v hj => by rw [Nat.zero_add]; exact hvs j v hj) h1c h1v i0 z0 hi0 hz0 hs0 hzc (by omega)).mono ?_
        rintro e w' ⟨rfl, rfl⟩
        obtain ⟨G, hG⟩ : ∃ G, G = grownCap w (es.length + 1) cap 90 := ⟨_, rfl⟩
        have hGn : es.length + 1 ≤ G := by rw [hG]; exact grownCap_ge w _ _ _
        have hG63 : G ≤ maxLen := by
          have := grownCap_le_maxLen w (es.length + 1) cap 90 (by unfold maxLen; omega)
          rw [← hG] at this
          exact this
        rw [← hG]
        obtain ⟨ROW, hROW⟩ : ∃ ROW : Array Value, ROW = (cs.take (i * 22)).toArray ++ Builtin.zeroCells z0.cells (es.length + 1 - i) ++ Builtin.zeroCells z0.cells (G - (es.length + 1)) := ⟨_, rfl⟩
        rw [← hROW]
        have hRs : ROW.size = G * 22 := by
          rw [hROW]
          simp [Builtin.zeroCells, hzc]
          omega
        have hRa : ∀ o, o < i * 22 → ROW[o]? = cs[o]? := fun o ho => by
          rw [hROW, Array.append_assoc, Array.getElem?_append_left (by simp; omega)]
          simp [List.getElem?_take, ho]
        have hW0 : ∀ o, ((w.alloc (.cells ROW 90)).drew).cell? ⟨w.heap.size, o, none⟩ = ROW[o]? := fun o => World.cell?_alloc_at (w := w) ROW _ w.heap.size o rfl
        have hW0f : ∀ o, ((w.alloc (.cells ROW 90)).drew).frozen? ⟨w.heap.size, o, none⟩ = false := fun o => World.frozen?_alloc_at (w := w) ROW _ w.heap.size o rfl
        have hw1 := wr_setCells (w.alloc (.cells ROW 90)).drew w.heap.size (i * 22) vs (fun j hj => by rw [hW0, Array.getElem?_eq_getElem (by omega)]; rfl)
        obtain ⟨W1, hW1⟩ : ∃ W1, W1 = (w.alloc (.cells ROW 90)).drew.setCells w.heap.size (i * 22) vs := ⟨_, rfl⟩
        rw [← hW1] at hw1 ⊢
        have h1s : ∀ o, o < G * 22 → (W1.cell? ⟨w.heap.size, o, none⟩).isSome = true := fun o ho => by
          by_cases hr : o < i * 22 ∨ i * 22 + vs.length ≤ o
          · rw [hw1.cout o hr, hW0, Array.getElem?_eq_getElem (by omega)]; rfl
          · have := hw1.cin (o - i * 22) (by omega)
            rw [show i * 22 + (o - i * 22) = o by omega] at this
            rw [this, List.getElem?_eq_getElem (by omega)]; rfl
        have hdl : (cs.drop (i * 22)).length = (es.length - i) * 22 := by rw [List.length_drop, hcl]; omega
        have hw2 := wr_setCells W1.drew w.heap.size ((i + 1) * 22) (cs.drop (i * 22)) (fun j hj => h1s _ (by omega))
        obtain ⟨W2, hW2⟩ : ∃ W2, W2 = W1.drew.setCells w.heap.size ((i + 1) * 22) (cs.drop (i * 22)) := ⟨_, rfl⟩
        rw [← hW2] at hw2 ⊢
        have hsz0 : (w.alloc (.cells ROW 90)).drew.heap.size = w.heap.size + 1 := by
          show (w.heap.push _).size = _
          exact Array.size_push _
        have hsz : W2.heap.size = w.heap.size + 1 := by rw [hw2.size]; show W1.heap.size = _; rw [hw1.size, hsz0]
        have hblk0 : ∀ k, k < w.heap.size → (w.alloc (.cells ROW 90)).drew.heap[k]? = w.heap[k]? := fun k hk => by
          show (w.heap.push _)[k]? = _
          rw [Array.getElem?_push_lt hk, Array.getElem?_eq_getElem hk]
        have hblk : ∀ k, k < w.heap.size → W2.heap[k]? = w.heap[k]? := fun k hk => by
          rw [hw2.block k (by omega)]; show W1.heap[k]? = _; rw [hw1.block k (by omega), hblk0 k hk]
        refine done w.heap.size G W2 ⟨by rw [hw2.os]; show W1.os = _; rw [hw1.os]; rfl, by rw [hw2.tape]; show W1.tape = _; rw [hw1.tape]; rfl, by rw [hw2.output]; show W1.output = _; rw [hw1.output]; rfl, by omega, fun k hk _ => hblk k hk, fun k o u hu => ?_⟩ (.inl (Nat.le_refl _)) (by omega)
          (fun o => ?_) (fun b o u hu => ?_) hGn hG63 (fun o ho => ?_) (fun o => by rw [hw2.frz]; show W1.frozen? _ = false; rw [hw1.frz]; exact hW0f o) (fun o ho => ?_) (fun q hq => ?_) (fun j hj => ?_)
        · rcases Nat.lt_or_ge k w.heap.size with hk | hk
          · have e1 := World.cell?_of_block (a := ⟨k, o, none⟩) (hblk k hk)
            have e2 := World.frozen?_of_block (a := ⟨k, o, none⟩) (hblk k hk)
            exact .inl ⟨⟨u, by rw [← e1]; exact hu⟩, e2⟩
          · refine .inr ⟨hk, ?_⟩
            have hlt := World.block_lt_of_cell? _ _ hu
            have : k = w.heap.size := by
              have hlt : k < W2.heap.size := hlt
              omega
            subst this
            rw [hw2.frz]; show W1.frozen? _ = false; rw [hw1.frz]; exact hW0f o
        · cases e : I w.heap.size o with
          | none => rfl
          | some u =>
            have := World.block_lt_of_cell? _ _ (hI _ _ _ e)
            exact absurd this (Nat.lt_irrefl _)
        · have hlt := World.block_lt_of_cell? _ _ (hI _ _ _ hu)
          rw [World.cell?_of_block (a := ⟨b, o, none⟩) (hblk b hlt)]
          exact hI b o u hu
        · refine Option.isSome_iff_exists.1 ?_
          by_cases hr : o < (i + 1) * 22 ∨ (i + 1) * 22 + (cs.drop (i * 22)).length ≤ o
          · rw [hw2.cout o hr]; exact h1s o ho
          · have := hw2.cin (o - (i + 1) * 22) (by omega)
            rw [show (i + 1) * 22 + (o - (i + 1) * 22) = o by omega] at this
            rw [this, List.getElem?_eq_getElem (by omega)]; rfl
        · rw [hw2.cout o (.inl (by omega))]
          show W1.cell? _ = _
          rw [hw1.cout o (.inl ho), hW0, hRa o ho]
        · rw [hw2.cout _ (.inl (by omega))]
          exact hw1.cin q (by omega)
        · rw [hw2.cin j (by omega), List.getElem?_drop]
      · have hcell : ∀ o, o < cap * 22 → (w.cell? ⟨g, o, none⟩).isSome = true := fun o ho => by
          obtain ⟨v, h1, _⟩ := hrow.cells o ho
          rw [h1]; rfl
        have hfz : ∀ o, w.frozen? ⟨g, o, none⟩ = false := hrow.frz (by decide)
        obtain ⟨tA, kA, hsa, _, _⟩ := World.shape?_of_cell? (hvs 0 _ (List.getElem?_eq_getElem (by omega)))
        obtain ⟨tB, kB, hsb, hkB, _⟩ := World.shape?_of_cell? (hcs 0 _ (List.getElem?_eq_getElem (by omega)))
        have hkB : kB ≠ 0 := by
          have : 0 < kB := hkB
          omega
        refine (walk_InsertRoom g es.length cap i vb 0 vc cs vs w hi hroom hcm hne hcl hvl hcs (fun j hj => hcell j (by omega)) (fun j _ => hfz j) (fun j v hj => by rw [Nat.zero_add]; exact hvs j v hj) h1c h1v i0 hi0 hs0
          (fun w => by simp [Go.sizeOf, typeInfo, hi0, hs0]) tA tB kA kB hsa hsb hkB (hvrow.frz (by decide) 0) (hvrow.frz (by decide) kA)).mono ?_
        rintro e w' ⟨rfl, rfl⟩
        have hdl : (cs.drop (i * 22)).length = (es.length - i) * 22 := by rw [List.length_drop, hcl]; omega
        have hw1 := wr_setCells w.drew g ((i + 1) * 22) (cs.drop (i * 22)) (fun j hj => hcell _ (by omega))
        obtain ⟨W1, hW1⟩ : ∃ W1, W1 = w.drew.setCells g ((i + 1) * 22) (cs.drop (i * 22)) := ⟨_, rfl⟩
        rw [← hW1] at hw1 ⊢
        have h1s : ∀ o, o < cap * 22 → (W1.cell? ⟨g, o, none⟩).isSome = true := fun o ho => by
          by_cases hr : o < (i + 1) * 22 ∨ (i + 1) * 22 + (cs.drop (i * 22)).length ≤ o
          · rw [hw1.cout o hr]; exact hcell o ho
          · have := hw1.cin (o - (i + 1) * 22) (by omega)
            rw [show (i + 1) * 22 + (o - (i + 1) * 22) = o by omega] at this
            rw [this, List.getElem?_eq_getElem (by omega)]; rfl
        have hw2 := wr_setCells W1 g (i * 22) vs (fun j hj => h1s _ (by omega))
        obtain ⟨W2, hW2⟩ : ∃ W2, W2 = W1.setCells g (i * 22) vs := ⟨_, rfl⟩
        rw [← hW2] at hw2 ⊢
        have hsz : W2.heap.size = w.heap.size := by rw [hw2.size, hw1.size]; rfl
        have hblk : ∀ k, k ≠ g → W2.heap[k]? = w.heap[k]? := fun k hk => by rw [hw2.block k hk, hw1.block k hk]; rfl
        have hfz2 : ∀ x, W2.frozen? x = w.frozen? x := fun x => by rw [hw2.frz, hw1.frz]; rfl
        refine done g cap W2 ⟨by rw [hw2.os, hw1.os]; rfl, by rw [hw2.tape, hw1.tape]; rfl, by rw [hw2.output, hw1.output]; rfl, by omega, fun k _ hn => hblk k (by rintro rfl; exact hn (by simp)), fun k o u hu => ?_⟩ (.inr (by simp)) (by omega)
          hIg (fun b o u hu => ?_) hroom hcm (fun o ho => ?_) (fun o => by rw [hfz2]; exact hfz o) (fun o ho => ?_) (fun q hq => ?_) (fun j hj => ?_)
        · obtain ⟨u1, h1⟩ := hw2.dom k o u hu
          obtain ⟨u2, h2⟩ := hw1.dom k o u1 h1
          exact .inl ⟨⟨u2, h2⟩, hfz2 _⟩
        · have hb : b ≠ g := by intro e; subst e; rw [hIg] at hu; cases hu
          rw [World.cell?_of_block (a := ⟨b, o, none⟩) (hblk b hb)]
          exact hI b o u hu
        · refine Option.isSome_iff_exists.1 ?_
          by_cases hr : o < i * 22 ∨ i * 22 + vs.length ≤ o
          · rw [hw2.cout o hr]; exact h1s o ho
          · have := hw2.cin (o - i * 22) (by omega)
            rw [show i * 22 + (o - i * 22) = o by omega] at this
            rw [this, List.getElem?_eq_getElem (by omega)]; rfl
        · rw [hw2.cout o (.inl ho), hw1.cout o (.inl (by omega))]
          have e1 := hcs o _ (List.getElem?_eq_getElem (by omega))
          rw [List.getElem?_eq_getElem (by omega)]
          exact e1
        · exact hw2.cin q (by omega)
        · rw [hw2.cout _ (.inr (by omega)), hw1.cin j (by omega), List.getElem?_drop]
    | [], hv => exact hv.elim
    | [_], hv => obtain ⟨_, _, _, _, h⟩ := hv; exact h.elim
    | [_, _], hv => obtain ⟨_, _, _, _, _, _, _, _, h⟩ := hv; exact h.elim
    | _ :: _ :: _ :: _ :: _, hv => obtain ⟨_, _, _, _, _, _, _, _, _, _, _, _, h⟩ := hv; exact h.elim
end Go.Proofs.Ytpepfhbfooeoeaa.VA
end
section
namespace Go.Proofs.Ytpepfhbfooeoeaa.VA
set_option maxRecDepth 10000
set_option maxHeartbeats 16000000

def HeldD.dull (h : HeldD) : AV := .agg [.int .i64 h.t.frm, .int .i64 h.t.nonce, .int .u64 (lim h.t.tip 0), .int .u64 (lim h.t.tip 1), .int .u64 (lim h.t.tip 2), .int .u64 (lim h.t.tip 3), .int .u64 (lim h.t.cap 0), .int .u64 (lim h.t.cap 1), .int .u64 (lim h.t.cap 2), .int .u64 (lim h.t.cap 3), .int .u64 (lim h.t.bcap 0), .int .u64 (lim h.t.bcap 1), .int .u64 (lim h.t.bcap 2), .int .u64 (lim h.t.bcap 3), .int .u64 (lim h.t.value 0), .int .u64 (lim h.t.value 1), .int .u64 (lim h.t.value 2), .int .u64 (lim h.t.value 3), .int .i64 h.t.gas, .sl true 1 (h.t.hashes.map (AV.int .u64)), .sl true 1 (h.t.blobs.map AV.str), .int .i64 h.n]
theorem held_dull (h : HeldD) : Dull h.dull h.av := by
  refine dulls_agg ?_
  repeat' (first | exact Dulls.nil | exact Dull.refl _ | exact Dull.sl _ _ _ _ rfl (fun j x y hx hy => by rw [hx] at hy; cases hy; exact .refl _) | refine Dulls.cons ?_ ?_)
theorem helds_map (l : List HeldD) (fr : Bool) : Dull (.sl fr 22 (l.map HeldD.dull)) (.sl false 22 (l.map HeldD.av)) := .sl fr 22 _ _ (by simp) fun j x y hx hy => by
  rw [List.getElem?_map] at hx hy
  cases e : l[j]? with
  | none => rw [e] at hx; cases hx
  | some t => rw [e] at hx hy; cases hx; cases hy; exact held_dull t
theorem c_pool_HeldsT (l : List HeldD) (hl : l.length * 208 ≤ reachBytes) (hok : ∀ a ∈ l, a.ok) : Contract Try.prog 97 [limbo l] (.own false 22 (l.map HeldD.dull)) := by
  unfold reachBytes at hl
  refine contract_of (C := cf 23 [0, 2, 3, 5, 6, 7, 8, 9] (fun _ => [])) (cf_ok _ _ _) (fn := Try.f97) Try.func97 (by kernel_rfl) rfl (by kernel_rfl) (by simp [cf]) (plain1 (limbo_plain l)) (by decide) (noCell (by kernel_rfl)) ?_
  simp only [go_sem, seval, limbo, List.length_map]
  refine ex_iter [0, 3, 6, 7, 8] (fun i : Nat => ⟨[(0, .sl false 22 (l.map HeldD.av)), (3, .own false 22 ((l.take i).map HeldD.dull)), (6, .sl false 22 (l.map HeldD.av)), (7, .int .i64 l.length), (8, .int .i64 i)], [], []⟩) (fun i => i ≤ l.length) (fun i => l.length - i) 0 ?_ ?_ ?_
  · simp only [ASt.keep, consIf, keepL, keepV, AV.isBot, List.contains_cons, List.contains_nil, Nat.reduceBEq, Bool.or_false, Bool.false_or, Bool.or_true, Bool.true_or, beq_self_eq_true, Bool.false_eq_true, ↓reduceIte, if_false, if_true]
    rfl
  · exact Nat.zero_le _
  · intro n i hi next
    simp only [go_sem, seval, List.length_map]
    refine ex_br (fun h => ?_) (fun h => ?_)
    · have hlt : i < l.length := by simpa using h
      obtain ⟨x, ex⟩ : ∃ x, l[i]? = some x := ⟨_, List.getElem?_eq_getElem hlt⟩
      have hs : (l.take i).map HeldD.dull ++ [x.dull] = (l.take (i + 1)).map HeldD.dull := take_snoc HeldD.dull ex
      have hc : Contract Try.prog 85 [txE x.t] (.agg x.t.cellsT) := c_tx_CopyT x.t (hok x (List.mem_of_getElem? ex)).t
      simp only [go_sem, seval, List.length_map, List.getElem?_map, ex, Int.toNat_natCast, HeldD.av]
      repeat with_reducible refine And.intro (by first | omega | (simp only [List.length_cons, List.length_append, List.length_nil, List.length_map, List.length_take, List.length_drop, List.length_set]; omega)) ?_
      try simp only [go_sem, seval, List.length_map, List.getElem?_map, ex, Int.toNat_natCast, HeldD.av]
      refine ex_draw [] [] (.quiet 0 (.quiet 1 (.quiet 2 (.quiet 4 (.quiet 5 (.one 3 (.one 6 (.one 7 (.one 8 (.quiet 9 (.fin))))))))))) (by kernel_rfl) ?_
      simp only [go_sem, seval]
      refine ex_call (by exact hc) ?_
      simp only [go_sem, seval, List.length_map, TxD.cellsT]
      repeat with_reducible refine And.intro (by first | omega | (simp only [List.length_cons, List.length_append, List.length_nil, List.length_map, List.length_take, List.length_drop, List.length_set]; omega)) ?_
      try simp only [go_sem, seval, List.length_map]
      refine next (i + 1) _ (by omega) (by omega) ?_
      rw [← wi64_nat i (by omega), ← hs]
      simp only [ASt.keep, consIf, keepL, keepV, AV.isBot, List.contains_cons, List.contains_nil, Nat.reduceBEq, Bool.or_false, Bool.false_or, Bool.or_true, Bool.true_or, beq_self_eq_true, Bool.false_eq_true, ↓reduceIte, if_false, if_true]
      try rfl
    · have hge : i = l.length := by simp at h; omega
      subst hge
      simp only [go_sem, seval, List.take_length]
      refine finOne ?_ (fun _ e => by cases e)
      show resOf _ _ [.tmp 2] = _
      simp only [go_sem, seval]
theorem finPushT {C : Cfg} {σ : ASt} {rs : List ResultVar} {sh : Bool} {es : List AV} {e : Int} (h : resOf C σ rs = some (.tup [.own sh 22 es, .int .i64 e])) : BodyPost C rs (.tup [.sl true 22 es, .int .i64 e]) .ret σ :=
  finTupD h (.cons (.froz (.refl _)) (.cons (.dull (.refl _)) .nil))
/-- What is pushed: the limbo, the error. -/
def pushErr (l : List HeldD) (t : TxD) (n : Int) : Int :=
  if validTx t = true ∧ limboOk l = true ∧ 0 ≤ n ∧ n ≤ 1099511627776 then (if thereAt l (idTx t) (posOf l (idTx t)) = true then 4 else if 48 ≤ l.length then 5 else 0) else 1
def insAt (l : List HeldD) (p : Nat) (x : HeldD) : List HeldD := l.take p ++ x :: l.drop p
def pushOut (l : List HeldD) (t : TxD) (n : Int) : List HeldD := if pushErr l t n = 0 then insAt l (posOf l (idTx t)) ⟨t, n⟩ else []
theorem insAt_map (l : List HeldD) (p : Nat) (x : HeldD) (f : HeldD → AV) : (insAt l p x).map f = (l.map f).take p ++ f x :: (l.map f).drop p := by
  unfold insAt
  rw [List.map_append, List.map_cons, List.map_take, List.map_drop]
theorem t_InsertH (l : List HeldD) (p : Nat) (hp : p ≤ l.length) (hl : l.length ≤ 1000000) (x : AV) : ∃ sh, Through Try.prog 96 [.own false 22 (l.map HeldD.dull), .int .i64 p, .own false 22 [x]] (.own sh 22 ((l.map HeldD.dull).take p ++ x :: (l.map HeldD.dull).drop p)) := by
  rcases Nat.lt_or_ge p l.length with h | h
  · exact ⟨false, t_Insert (l.map HeldD.dull) x p (by simpa using h) (by simpa using hl)⟩
  · have e : p = (l.map HeldD.dull).length := by rw [List.length_map]; omega
    have := t_InsertEnd (l.map HeldD.dull) (by simpa using hl) x
    rw [← e] at this
    refine ⟨true, ?_⟩
    rw [List.take_of_length_le (by omega), List.drop_eq_nil_of_le (by omega)]
    exact this
theorem c_limbo_PushT (l : List HeldD) (t : TxD) (n : Int) (hl : l.length * 208 ≤ reachBytes) (hok : ∀ a ∈ l, a.ok) (ht : t.ok) : Contract Try.prog 49 [limbo l, txE t, .int .i64 n] (.tup [.sl true 22 ((pushOut l t n).map HeldD.dull), .int .i64 (pushErr l t n)]) := by
  obtain ⟨res, hres⟩ : ∃ res, res = (.tup [.sl true 22 ((pushOut l t n).map HeldD.dull), .int .i64 (pushErr l t n)] : AV) := ⟨_, rfl⟩
  rw [← hres]
  have err : ∀ e : Int, pushErr l t n = e → e ≠ 0 → res = .tup [.sl true 22 [], .int .i64 e] := fun e he hne => by
    rw [hres]; unfold pushOut; rw [he, if_neg hne]; rfl
  have good : pushErr l t n = 0 → res = .tup [.sl true 22 ((l.map HeldD.dull).take (posOf l (idTx t)) ++ HeldD.dull ⟨t, n⟩ :: (l.map HeldD.dull).drop (posOf l (idTx t))), .int .i64 0] := fun he => by
    rw [hres]; unfold pushOut; rw [he, if_pos rfl, insAt_map]
  clear hres
  have hID := r_txID t ht
  have hL := c_pool_Limbo l hl hok
  have hH := c_pool_HeldsT l hl hok
  have hC : Contract Try.prog 85 [txE t] (.agg t.cellsT) := c_tx_CopyT t ht
  have e1 : ¬ (validTx t = true ∧ limboOk l = true ∧ 0 ≤ n ∧ n ≤ 1099511627776) → pushErr l t n = 1 := fun h => if_neg h
  refine contract_of (C := cf 53 [0, 2, 4, 6, 7, 8, 9, 10, 11, 31, 38, 40] ( ownI)) (cf_ok _ _ _) (fn := Try.f49) Try.func49 (by kernel_rfl) rfl (by kernel_rfl) (by simp [cf]) (plain3 (limbo_plain l) t.plain (.int _ _)) (by decide) (noCell (by kernel_rfl)) ?_
  simp only [go_sem, seval, limbo, TxD.av, TxD.cells, ints, strs, ownI_Insert, ownI_ID, ownI_Limbo, ownI_place, ownI_Helds, ownI_Copy]
  refine ex_call (by exact hID) ?_
  cases hv : validTx t
  case' false =>
    rw [err 1 (e1 (by rw [hv]; rintro ⟨h, _⟩; cases h)) (by decide)]
    simp only [go_sem, seval, ownI_Insert, ownI_ID, ownI_Limbo, ownI_place, ownI_Helds, ownI_Copy]
    refine finPushT (sh := false) ?_
    show resOf _ _ [.tmp 6, .tmp 7] = _
    simp only [go_sem, seval]
  simp only [go_sem, seval, ownI_Insert, ownI_ID, ownI_Limbo, ownI_place, ownI_Helds, ownI_Copy]
  refine ex_call (by exact hL) ?_
  cases hy : limboOk l
  case' false =>
    rw [err 1 (e1 (by rw [hy]; rintro ⟨_, h, _⟩; cases h)) (by decide)]
    simp only [go_sem, seval, ownI_Insert, ownI_ID, ownI_Limbo, ownI_place, ownI_Helds, ownI_Copy]
    refine finPushT (sh := false) ?_
    show resOf _ _ [.tmp 6, .tmp 7] = _
    simp only [go_sem, seval]
  cases d1 : decide (n < 0)
  case' true =>
    rw [err 1 (e1 (by have := of_decide_eq_true d1; omega)) (by decide)]
    simp only [go_sem, seval, d1, ownI_Insert, ownI_ID, ownI_Limbo, ownI_place, ownI_Helds, ownI_Copy]
    refine finPushT (sh := false) ?_
    show resOf _ _ [.tmp 6, .tmp 7] = _
    simp only [go_sem, seval]
  cases d2 : decide (n > 1099511627776)
  case' true =>
    rw [err 1 (e1 (by have := of_decide_eq_true d2; omega)) (by decide)]
    simp only [go_sem, seval, d1, d2, ownI_Insert, ownI_ID, ownI_Limbo, ownI_place, ownI_Helds, ownI_Copy]
    refine finPushT (sh := false) ?_
    show resOf _ _ [.tmp 6, .tmp 7] = _
    simp only [go_sem, seval]
  have e2 : pushErr l t n = (if thereAt l (idTx t) (posOf l (idTx t)) = true then 4 else if 48 ≤ l.length then 5 else 0) := if_pos ⟨hv, hy, by have := of_decide_eq_false d1; omega, by have := of_decide_eq_false d2; omega⟩
  obtain ⟨h48, hs, hva⟩ := limbo_sorted hy
  have hpp := place_pos l (idTx t) hs
  have hP := c_place l hok hva (by omega) _ _ hpp
  have hle := hpp.1
  obtain ⟨sh, hI⟩ := t_InsertH l (posOf l (idTx t)) hle (by omega) (HeldD.dull ⟨t, n⟩)
  simp only [go_sem, seval, d1, d2, ownI_Insert, ownI_ID, ownI_Limbo, ownI_place, ownI_Helds, ownI_Copy]
  refine ex_call (by exact hP) ?_
  cases hth : thereAt l (idTx t) (posOf l (idTx t))
  case' true =>
    rw [err 4 (by rw [e2, if_pos hth]) (by decide)]
    simp only [go_sem, seval, ownI_Insert, ownI_ID, ownI_Limbo, ownI_place, ownI_Helds, ownI_Copy]
    refine finPushT (sh := false) ?_
    show resOf _ _ [.tmp 6, .tmp 7] = _
    simp only [go_sem, seval]
  rw [hth, if_neg (by decide)] at e2
  cases d3 : decide ((l.length : Int) ≥ 48)
  case' true =>
    rw [err 5 (by rw [e2, if_pos (by have := of_decide_eq_true d3; omega)]) (by decide)]
    simp only [go_sem, seval, d3, List.length_map, ownI_Insert, ownI_ID, ownI_Limbo, ownI_place, ownI_Helds, ownI_Copy]
    refine finPushT (sh := false) ?_
    show resOf _ _ [.tmp 6, .tmp 7] = _
    simp only [go_sem, seval]
  rw [good (by rw [e2, if_neg (by have := of_decide_eq_false d3; omega)])]
  simp only [go_sem, seval, d3, List.length_map, ownI_Insert, ownI_ID, ownI_Limbo, ownI_place, ownI_Helds, ownI_Copy]
  refine ex_draw [] [] (.quiet 0 (.quiet 2 (.quiet 3 (.quiet 5 (.one 1 (.one 4 (.one 6 (.one 7 (.one 8 (.quiet 9 (.quiet 10 (.fin)))))))))))) (by kernel_rfl) ?_
  simp only [go_sem, seval, ex_ord_two, ex_ord_three, ownI_Insert, ownI_ID, ownI_Limbo, ownI_place, ownI_Helds, ownI_Copy]
  refine ex_call (by exact hH) ?_
  simp only [go_sem, seval, ownI_Insert, ownI_ID, ownI_Limbo, ownI_place, ownI_Helds, ownI_Copy]
  refine ex_call (by exact hC) ?_
  simp only [go_sem, seval, TxD.cellsT, ownI_Insert, ownI_ID, ownI_Limbo, ownI_place, ownI_Helds, ownI_Copy]
  refine ex_through (by exact hI) ?_
  simp only [go_sem, seval, ownI_Insert, ownI_ID, ownI_Limbo, ownI_place, ownI_Helds, ownI_Copy]
  refine finPushT (sh := sh) ?_
  show resOf _ _ [.tmp 6, .tmp 7] = _
  simp only [go_sem, seval]
end Go.Proofs.Ytpepfhbfooeoeaa.VA
end
section
namespace Go.Proofs.Ytpepfhbfooeoeaa.VA
open Go.RowKit

/-- What a cell may turn to: a value of its kind; a slice: the nil slice. -/
inductive Kin : Value → Value → Prop
  | same (v : Value) : Kin v v
  | int (k : IntKind) (a b : Int) : Kin (.int k a) (.int k b)
  | str (s t : ByteArray) : Kin (.string s) (.string t)
  | bool (a b : Bool) : Kin (.bool a) (.bool b)
  | nil (b : Option Addr) (n c : Nat) : Kin (.slice b n c) (.slice none 0 0)
/-- The cells of the blocks B are as they were, but for their kinds. -/
structure Sp (I : Imm) (B : Nat → Prop) (w : World) : Prop where
  cells : ∀ b o u, B b → I b o = some u → ∃ u', w.cell? ⟨b, o, none⟩ = some u' ∧ w.frozen? ⟨b, o, none⟩ = false ∧ Kin u u'
/-- A value as it stands now: its cells are of the kinds that they had. -/
def KinV (v v' : Value) : Prop := v.cells.size = v'.cells.size ∧ ∀ (j : Nat) u u', v.cells[j]? = some u → v'.cells[j]? = some u' → Kin u u'

theorem cells_eq {M N : Nat → Prop} {I : Imm} {e : AV} {v v' : Value} (h : AR M I e v) (h' : AR N I e v') (hc : v.cells = v'.cells) : v = v' := by
  rcases h.kind with ⟨cs, vs, rfl, rfl, _⟩ | ⟨h1, h2⟩
  · cases h' with
    | agg _ vs' => rw [show vs = vs' from hc]
  · rcases h'.kind with ⟨cs, vs', rfl, rfl, _⟩ | ⟨h1', _⟩
    · cases h; cases h1
    · rw [cells_one h1, cells_one h1'] at hc
      simpa using hc
/-- The least set of blocks that a value leans on. -/
theorem AR.least {I : Imm} {x : AV} {v : Value} (h : AR (fun _ => True) I x v) : Wide x → ∀ N : Nat → Prop, (∀ b, (∀ M, AR M I x v → M b) → (∃ o u, I b o = some u) → N b) → AR N I x v := by
  induction h with
  | bool b => exact fun _ _ _ => .bool b
  | int k n => exact fun _ _ _ => .int k n
  | str s => exact fun _ _ _ => .str s
  | fn f => exact fun hw => by cases hw
  | nilf => exact fun hw => by cases hw
  | agg cs vs hl h1 hc ih =>
    intro hw N hN
    cases hw with
    | agg _ hw =>
      refine .agg cs vs hl h1 fun j c u hj hu => ih j c u hj hu (hw c (List.mem_of_getElem? hj)) N fun b hb => hN b fun M hM => hb M ?_
      cases hM with
      | agg _ _ _ _ hM => exact hM j c u hj hu
  | slnil fr sz base cap => exact fun _ _ _ => .slnil fr sz base cap
  | sl fr sz es b o n cap hn hc vs hv hz hI _ ih =>
    intro hw N hN
    cases hw with
    | sl _ _ _ h0 hw =>
      cases es with
      | nil => subst hn; exact .slnil fr sz _ _
      | cons e0 es =>
        have hcell : ∃ o u, I b o = some u := by
          have hs := hz 0 (by simp)
          exact ⟨_, _, hI 0 0 _ (by simp) (Array.getElem?_eq_getElem (by rw [hs]; exact h0))⟩
        have inv : ∀ M, AR M I (.sl fr sz (e0 :: es)) (.slice (some ⟨b, o, none⟩) n cap) → (fr = true → M b) ∧ ∀ (i : Nat) e, (e0 :: es)[i]? = some e → AR M I e (vs i) := by
          intro M hM
          cases hM with
          | sl _ _ _ _ _ _ _ _ _ vs' hv' hz' hI' hM' =>
            refine ⟨hM', fun i e he => ?_⟩
            have hi := (List.getElem?_eq_some_iff.1 he).1
            have e1 : vs i = vs' i := by
              refine cells_eq (hv i e he) (hv' i e he) (Array.ext (by rw [hz i hi, hz' i hi]) fun j h1 h2 => ?_)
              have q1 := hI i j _ hi (Array.getElem?_eq_getElem h1)
              have q2 := hI' i j _ hi (Array.getElem?_eq_getElem h2)
              rw [q1] at q2
              exact Option.some.inj q2
            rw [e1]; exact hv' i e he
        refine .sl fr sz _ b o n cap hn hc vs (fun i e he => ih i e he (hw e (List.mem_of_getElem? he)) N fun c hb => hN c fun M hM => hb M ((inv M hM).2 i e he)) hz hI fun e => hN b (fun M hM => (inv M hM).1 e) hcell
  | ext => exact fun hw => by cases hw
  | hd => exact fun hw => by cases hw

/-- A row of the value, as it stands now. -/
theorem row_now {I : Imm} {B : Nat → Prop} {sz : Nat} {es : List AV} {u u' : Value} (h : AR B I (.sl true sz es) u) (hk : Kin u u') : ∃ base n cap, u' = .slice base n cap ∧ (n = 0 ∨ (n = es.length ∧ ∃ b o, base = some ⟨b, o, none⟩ ∧ B b ∧ ∃ vs : Nat → Value,
    (∀ (i : Nat) e, es[i]? = some e → AR B I e (vs i)) ∧ (∀ i, i < es.length → (vs i).cells.size = sz) ∧ ∀ (i j : Nat) c, i < es.length → (vs i).cells[j]? = some c → I b (o + i * sz + j) = some c)) := by
  cases h with
  | slnil fr sz base cap =>
    cases hk with
    | same => exact ⟨_, _, _, rfl, .inl rfl⟩
    | nil => exact ⟨_, _, _, rfl, .inl rfl⟩
  | sl fr sz es b o n cap hn hc vs hv hz hI hM =>
    cases hk with
    | same => exact ⟨_, _, _, rfl, .inr ⟨hn, b, o, rfl, hM rfl, vs, hv, hz, hI⟩⟩
    | nil => exact ⟨_, _, _, rfl, .inl rfl⟩

/-- Between two stores. -/
structure SpG (I : Imm) (B : Nat → Prop) (w0 w : World) : Prop where
  fr : Fr w0 w B
  sp : Sp I B w
theorem SpG.grow {I : Imm} {B : Nat → Prop} {w0 w w' : World} (h : SpG I B w0 w) (hw : Fr w w' fun _ => False) : SpG I B w0 w' where
  fr := fr_trans h.fr hw.os hw.tape hw.output hw.size (fun k hk _ => hw.block k (Nat.lt_of_lt_of_le hk h.fr.size) id) hw.new
  sp := ⟨fun b o u hb hu => by
    obtain ⟨u', h1, h2, h3⟩ := h.sp.cells b o u hb hu
    have hlt : b < w.heap.size := World.block_lt_of_cell? w _ h1
    have e := hw.block b hlt id
    exact ⟨u', by rw [World.cell?_of_block e]; exact h1, by rw [World.frozen?_of_block e]; exact h2, h3⟩⟩
theorem SpG.called {I : Imm} {B : Nat → Prop} {w0 w w' : World} (h : SpG I B w0 w) (hw : SpG I B w w') : SpG I B w0 w' where
  fr := fr_trans h.fr hw.fr.os hw.fr.tape hw.fr.output hw.fr.size (fun k hk hn => hw.fr.block k (Nat.lt_of_lt_of_le hk h.fr.size) hn) hw.fr.new
  sp := hw.sp
/-- Cells of a block of B are written over, by values of their kinds. -/
theorem SpG.write {I : Imm} {B : Nat → Prop} {w0 w : World} (h : SpG I B w0 w) {b off : Nat} {vals : List Value} (hb : B b) (hc : ∀ j, j < vals.length → (w.cell? ⟨b, off + j, none⟩).isSome = true)
    (hk : ∀ (j : Nat) u v, I b (off + j) = some u → vals[j]? = some v → Kin u v) : SpG I B w0 (w.setCells b off vals) := by
  have hW := wr_setCells w b off vals hc
  refine ⟨fr_trans h.fr hW.os hW.tape hW.output (Nat.le_of_eq hW.size.symm) (fun k hk hn => hW.block k fun e => by subst e; exact hn hb) fun k o u hu => .inl ⟨hW.dom k o u hu, hW.frz _⟩, ⟨fun b' o u hb' hu => ?_⟩⟩
  obtain ⟨u', h1, h2, h3⟩ := h.sp.cells b' o u hb' hu
  rw [hW.frz]
  by_cases e : b' = b
  · subst e
    by_cases hin : off ≤ o ∧ o < off + vals.length
    · have e1 := hW.cin (o - off) (by omega)
      rw [show off + (o - off) = o by omega] at e1
      have hlt : o - off < vals.length := by omega
      rw [e1, List.getElem?_eq_getElem hlt]
      exact ⟨_, rfl, h2, hk (o - off) u _ (by rw [show off + (o - off) = o by omega]; exact hu) (List.getElem?_eq_getElem hlt)⟩
    · rw [hW.cout o (by omega)]; exact ⟨u', h1, h2, h3⟩
  · rw [hW.cell_ne e]; exact ⟨u', h1, h2, h3⟩
/-! Loads and stores of whole elements, one step each. -/
theorem wpList_load {P : Program} {ops : Array Oper} {rest : List Oper} {o : Oper} {a : Act} {w : World} {Q : Exit → Act → World → Prop} (hgd : o.guard = none) (T : TypeId) (x : Operand) (ho : o.op = .load T x) {p : Addr} (hp : a.eval x = .pointer (some p)) {v : Value}
    (hr : (Go.loadVar T p).run P w = .ok v w) (h : wpList P ops Q rest (a.put o.dst v) w) : wpList P ops Q (o :: rest) a w :=
  wpList_plain hgd fun _ hK => by
    unfold Oper.wp execOp
    simp only [ho, Sem.run_bind, Sem.run_pure, Result.andThen_ok, run_loadAt hp hr]
    exact hK _ _ h
theorem wpList_store {P : Program} {ops : Array Oper} {rest : List Oper} {o : Oper} {a : Act} {w w' : World} {Q : Exit → Act → World → Prop} (hgd : o.guard = none) (T : TypeId) (p x : Operand) (ho : o.op = .store T p x) (hd : o.dst = none) {u v : Value} (hp : a.eval p = u) (hx : a.eval x = v)
    (hr : (Instr.storeAt T u v).run P w = .ok () w') (h : wpList P ops Q rest a w') : wpList P ops Q (o :: rest) a w :=
  wpList_plain hgd fun _ hK => by
    unfold Oper.wp execOp
    simp only [ho, Sem.run_bind, Sem.run_pure, Result.andThen_ok, hp, hx, hr]
    exact hK _ _ (by rw [hd]; exact h)
/-- What a function that writes over its argument must do, at any time, for a Spoil. -/
theorem spoil_of {P : Program} {f : FuncId} {x : AV} (hw : Wide x) (he : ∃ fn c, P.funcs[f]? = some fn ∧ (fn.name == "runtime.NumGoroutine") = false ∧ fn.body = some c)
    (h : ∀ (I : Imm) (B : Nat → Prop) (w : World) (v : Value), AR B I x v → Sp I B w → (∀ b, B b → b < w.heap.size) → Calls P f #[v] w fun e w' => e = .returned (.tuple #[]) ∧ SpG I B w w') : Spoil P f x where
  wide := hw
  enters := he
  calls I w v hI hx hz := by
    have hB := hx.least hw (fun b => (∀ M, AR M I x v → M b) ∧ ∃ o u, I b o = some u) fun b h1 h2 => ⟨h1, h2⟩
    refine (h I _ w v hB ⟨fun b o u hb hu => ⟨u, hI b o u hu, hz b hb.1 o u hu, .same u⟩⟩ fun b hb => ?_).mono fun e w' hq => ⟨hq.1, hq.2.fr⟩
    obtain ⟨o, u, hu⟩ := hb.2
    exact World.block_lt_of_cell? w _ (hI b o u hu)
end Go.Proofs.Ytpepfhbfooeoeaa.VA
end
section
namespace Go.Proofs.Ytpepfhbfooeoeaa.VA

noncomputable def cfs (n : Nat) (live : List Nat) (spc spl : FuncId → Bool) : Cfg := { P := Try.prog, ti := ti, n := n, live := live, ownp := fun _ => [], spc := spc, spl := spl }
theorem cfs_ok (n : Nat) (live : List Nat) (spc spl : FuncId → Bool) : CfgOk (cfs n live spc spl) := ⟨(cf_ok 0 [] (fun _ => [])).mixed, (cf_ok 0 [] (fun _ => [])).fit⟩
/-! What was put by. -/
theorem sty_agg {s : Stash} : ∀ {xs ys : List AV}, xs.length = ys.length → (∀ (j : Nat) x y, xs[j]? = some x → ys[j]? = some y → Sty s x y) → Sty s (.agg xs) (.agg ys) := fun hl h => .agg _ _ hl h
theorem sty_nil (s : Stash) : ∀ (j : Nat) x y, ([] : List AV)[j]? = some x → ([] : List AV)[j]? = some y → Sty s x y := fun j x y h => by cases h
theorem sty_cons {s : Stash} {x y : AV} {xs ys : List AV} (h : Sty s x y) (hr : ∀ (j : Nat) x y, xs[j]? = some x → ys[j]? = some y → Sty s x y) : ∀ (j : Nat) u v, (x :: xs)[j]? = some u → (y :: ys)[j]? = some v → Sty s u v := fun j u v hu hv => by
  cases j with
  | zero =>
    simp only [List.getElem?_cons_zero, Option.some.injEq] at hu hv
    subst hu hv; exact h
  | succ j => exact hr j u v (by simpa using hu) (by simpa using hv)
theorem by_nil (s : Stash) : ∀ (j : Nat) x y, ([] : List AV)[j]? = some x → ([] : List AV)[j]? = some y → By s x y := fun j x y h => by cases h
theorem by_cons {s : Stash} {x y : AV} {xs ys : List AV} (h : By s x y) (hr : ∀ (j : Nat) x y, xs[j]? = some x → ys[j]? = some y → By s x y) : ∀ (j : Nat) u v, (x :: xs)[j]? = some u → (y :: ys)[j]? = some v → By s u v := fun j u v hu hv => by
  cases j with
  | zero =>
    simp only [List.getElem?_cons_zero, Option.some.injEq] at hu hv
    subst hu hv; exact h
  | succ j => exact hr j u v (by simpa using hu) (by simpa using hv)
end Go.Proofs.Ytpepfhbfooeoeaa.VA
end
section
namespace Go.Proofs.Ytpepfhbfooeoeaa.VA
set_option maxRecDepth 10000
set_option maxHeartbeats 16000000

/-- One held whose rows were put by. -/
def heldS (s : Stash) (h : HeldD) : AV := .agg [.int .i64 h.t.frm, .int .i64 h.t.nonce, .int .u64 (lim h.t.tip 0), .int .u64 (lim h.t.tip 1), .int .u64 (lim h.t.tip 2), .int .u64 (lim h.t.tip 3), .int .u64 (lim h.t.cap 0), .int .u64 (lim h.t.cap 1), .int .u64 (lim h.t.cap 2), .int .u64 (lim h.t.cap 3), .int .u64 (lim h.t.bcap 0), .int .u64 (lim h.t.bcap 1), .int .u64 (lim h.t.bcap 2), .int .u64 (lim h.t.bcap 3), .int .u64 (lim h.t.value 0), .int .u64 (lim h.t.value 1), .int .u64 (lim h.t.value 2), .int .u64 (lim h.t.value 3), .int .i64 h.t.gas, .ext (stP s (.sl true 1 (h.t.hashes.map (AV.int .u64)))), .ext (stP s (.sl true 1 (h.t.blobs.map AV.str))), .int .i64 h.n]
/-- A value whose rows bear the colour k. -/
def colP (col : Nat → Option Nat) (k : Nat) (x : AV) : Imm → Value → Prop := fun J v => AR (fun b => col b = some k) J x v
/-- One held of new memory, of the colour k. -/
def heldG (col : Nat → Option Nat) (k : Nat) (h : HeldD) : AV := .agg [.int .i64 h.t.frm, .int .i64 h.t.nonce, .int .u64 (lim h.t.tip 0), .int .u64 (lim h.t.tip 1), .int .u64 (lim h.t.tip 2), .int .u64 (lim h.t.tip 3), .int .u64 (lim h.t.cap 0), .int .u64 (lim h.t.cap 1), .int .u64 (lim h.t.cap 2), .int .u64 (lim h.t.cap 3), .int .u64 (lim h.t.bcap 0), .int .u64 (lim h.t.bcap 1), .int .u64 (lim h.t.bcap 2), .int .u64 (lim h.t.bcap 3), .int .u64 (lim h.t.value 0), .int .u64 (lim h.t.value 1), .int .u64 (lim h.t.value 2), .int .u64 (lim h.t.value 3), .int .i64 h.t.gas, .hd true (.sl true 1 (h.t.hashes.map (AV.int .u64))) (colP col k (.sl true 1 (h.t.hashes.map (AV.int .u64)))), .hd true (.sl true 1 (h.t.blobs.map AV.str)) (colP col k (.sl true 1 (h.t.blobs.map AV.str))), .int .i64 h.n]
def spcH (f : FuncId) : Bool := Nat.beq f 85
def splH (f : FuncId) : Bool := false
theorem spcH_Copy : spcH 85 = true := rfl
theorem zip_snoc {ss : List Stash} {l : List HeldD} {i : Nat} {x : HeldD} (s : Stash) (hs : ss.length = i) (ex : l[i]? = some x) : List.zipWith heldS ss.reverse (l.take i) ++ [heldS s x] = List.zipWith heldS (s :: ss).reverse (l.take (i + 1)) := by
  have hi := (List.getElem?_eq_some_iff.1 ex).1
  rw [List.take_add_one, ex, List.reverse_cons, List.zipWith_append (by simp; omega)]
  rfl
theorem run_Helds (l : List HeldD) (hl : l.length * 208 ≤ reachBytes) (hok : ∀ a ∈ l, a.ok) {I : Imm} {w : World} {vs : List Value} {gs : List Nat} (hI : Imm.ok I w) (hreps0 : VReps (fun _ => True) I w [limbo l] vs gs) (hnd : gs.Nodup) :
    Calls Try.prog 97 vs.toArray w (Ended (cfs 23 [0, 2, 3, 5, 6, 7, 8, 9] spcH splH) (fun _ => False) (fun ss : List Stash => .own false 22 (List.zipWith heldS ss.reverse l)) (fun ss st => st = ss ∧ ss.length = l.length) I w gs) := by
  have hreps : VReps (fun b => False ∨ w.heap.size ≤ b ∨ b ∈ gs) I w [limbo l] vs gs := VReps.plain _ _ _ hreps0 (plain1 (limbo_plain l))
  unfold reachBytes at hl
  refine body_of (C := cfs 23 [0, 2, 3, 5, 6, 7, 8, 9] spcH splH) _ (fun ss : List Stash => .own false 22 (List.zipWith heldS ss.reverse l)) (fun ss st => st = ss ∧ ss.length = l.length) (cfs_ok _ _ _ _) (fn := Try.f97) Try.func97 rfl (by kernel_rfl) (by simp [cfs]) (by decide) (noCell (by kernel_rfl)) ?_ rfl (by kernel_rfl) (fun _ => ⟨rfl, fun _ h => h⟩) hI hreps hnd
  simp only [go_sem, seval, cfs, limbo, List.length_map]
  refine ex_iter [0, 3, 6, 7, 8] (fun g : Nat × List Stash => { tmps := [(0, .sl false 22 (l.map HeldD.av)), (3, .own false 22 (List.zipWith heldS g.2.reverse (l.take g.1))), (6, .sl false 22 (l.map HeldD.av)), (7, .int .i64 l.length), (8, .int .i64 g.1)], vars := [], st := g.2 }) (fun g => g.1 ≤ l.length ∧ g.2.length = g.1) (fun g => l.length - g.1) (0, []) ?_ ?_ ?_
  · simp only [ASt.keep, consIf, keepL, keepV, AV.isBot, List.contains_cons, List.contains_nil, Nat.reduceBEq, Bool.or_false, Bool.false_or, Bool.or_true, Bool.true_or, beq_self_eq_true, Bool.false_eq_true, ↓reduceIte, if_false, if_true]
    rfl
  · exact ⟨Nat.zero_le _, rfl⟩
  · rintro n ⟨i, ss⟩ ⟨hi, hs⟩ next
    dsimp only at hi hs next ⊢
    simp only [go_sem, seval, List.length_map]
    refine ex_br (fun h => ?_) (fun h => ?_)
    · have hlt : i < l.length := by simpa using h
      obtain ⟨x, ex⟩ : ∃ x, l[i]? = some x := ⟨_, List.getElem?_eq_getElem hlt⟩
      have hc : Contract Try.prog 85 [txE x.t] (.agg x.t.cellsT) := c_tx_CopyT x.t (hok x (List.mem_of_getElem? ex)).t
      have hzl : (List.zipWith heldS ss.reverse (l.take i)).length = i := by simp; omega
      simp only [go_sem, seval, List.length_map, List.getElem?_map, ex, Int.toNat_natCast, HeldD.av]
      repeat with_reducible refine And.intro (by first | omega | (simp only [List.length_cons, List.length_append, List.length_nil, List.length_map, List.length_take, List.length_drop, List.length_set]; omega)) ?_
      try simp only [go_sem, seval, List.length_map, List.getElem?_map, ex, Int.toNat_natCast, HeldD.av]
      refine ex_draw [] [] (.quiet 0 (.quiet 1 (.quiet 2 (.quiet 4 (.quiet 5 (.one 3 (.one 6 (.one 7 (.one 8 (.quiet 9 (.fin))))))))))) (by kernel_rfl) ?_
      simp only [go_sem, seval, spcH_Copy]
      refine ex_fork (.cons (.refl _) .nil) (by exact hc) rfl rfl (fun s => ?_)
      simp only [go_sem, seval, hzl, TxD.cellsT, ASt.stow, AV.stowT, AV.stowA, AV.stow]
      refine ⟨by omega, ?_⟩
      refine next (i + 1, s :: ss) _ ⟨by dsimp only; omega, by simp [hs]⟩ (by dsimp only; omega) ?_
      dsimp only
      rw [← wi64_nat i (by omega), ← zip_snoc s hs ex]
      simp only [ASt.keep, consIf, keepL, keepV, AV.isBot, List.contains_cons, List.contains_nil, Nat.reduceBEq, Bool.or_false, Bool.false_or, Bool.or_true, Bool.true_or, beq_self_eq_true, Bool.false_eq_true, ↓reduceIte, if_false, if_true]
      try rfl
    · have hge : i = l.length := by simp at h; omega
      subst hge
      simp only [go_sem, seval, List.take_length]
      refine ⟨ss, ⟨rfl, hs⟩, ?_⟩
      refine finOne ?_ (fun _ e => by cases e)
      show resOf _ _ [.tmp 2] = _
      simp only [go_sem, seval]
end Go.Proofs.Ytpepfhbfooeoeaa.VA
end
section
namespace Go.Proofs.Ytpepfhbfooeoeaa.VA
set_option maxRecDepth 10000

theorem all2_nil {R : AV → AV → Prop} : ∀ (j : Nat) x y, ([] : List AV)[j]? = some x → ([] : List AV)[j]? = some y → R x y := fun j x y h => by cases h
theorem all2_cons {R : AV → AV → Prop} {x y : AV} {xs ys : List AV} (h : R x y) (hr : ∀ (j : Nat) x y, xs[j]? = some x → ys[j]? = some y → R x y) : ∀ (j : Nat) u v, (x :: xs)[j]? = some u → (y :: ys)[j]? = some v → R u v := fun j u v hu hv => by
  cases j with
  | zero =>
    simp only [List.getElem?_cons_zero, Option.some.injEq] at hu hv
    subst hu hv; exact h
  | succ j => exact hr j u v (by simpa using hu) (by simpa using hv)
/-- Cell by cell. -/
theorem agg_turn {M N : Nat → Prop} {I J : Imm} {xs ys : List AV} {v : Value} (hl : xs.length = ys.length) (h : ∀ (j : Nat) x y, xs[j]? = some x → ys[j]? = some y → ∀ u, AR M I x u → AR N J y u) (ha : AR M I (.agg xs) v) : AR N J (.agg ys) v := by
  cases ha with
  | agg _ vs hl' h1 hc =>
    refine .agg ys vs (hl.symm.trans hl') h1 fun j y u hy hu => ?_
    have hj : j < xs.length := by rw [hl]; exact (List.getElem?_eq_some_iff.1 hy).1
    exact h j _ y (List.getElem?_eq_getElem hj) hy u (hc j _ u (List.getElem?_eq_getElem hj) hu)
theorem int_turn {M N : Nat → Prop} {I J : Imm} (k : IntKind) (n : Int) : ∀ u, AR M I (.int k n) u → AR N J (.int k n) u := fun u h => by cases h; exact .int _ _
/-- What was put by, as a new row of a colour. -/
theorem put_turn {M N : Nat → Prop} {I J : Imm} {s : Stash} {col : Nat → Option Nat} {k : Nat} {x : AV} (hi : x.isImm = true) (hw : Wide x) (hm : Marked x) (hK : ∀ b o u, s.L b → s.K b o = some u → J b o = some u ∧ N b ∧ col b = some k) :
    ∀ u, AR M I (.ext (stP s x)) u → AR N J (.hd true x (colP col k x)) u := fun u h => by
  cases h with
  | ext _ J0 _ hJ h1 hp =>
    have hp : AR s.L s.K x u := hp
    have h2 := (hp.wide hw).only J (fun b o u hb hu => (hK b o u hb.1 hu).1) hm
    refine .hd true x _ J u (h2.mono (fun b hb => ?_) (Imm.leRefl J)) hi (fun _ _ _ e => e) h1 (h2.mono (fun b hb => ?_) (Imm.leRefl J))
    · obtain ⟨hb, o, u, hu⟩ := hb
      exact (hK b o u hb hu).2.1
    · obtain ⟨hb, o, u, hu⟩ := hb
      exact (hK b o u hb hu).2.2
theorem ints_wide {α : Type} (f : α → AV) (l : List α) (h : ∀ a, Wide (f a)) : Wide (.sl true 1 (l.map f)) := .sl _ _ _ (by decide) fun c hc => by
  obtain ⟨a, _, rfl⟩ := List.mem_map.1 hc; exact h a
theorem ints_marked {α : Type} (f : α → AV) (l : List α) (h : ∀ a, Marked (f a)) : Marked (.sl true 1 (l.map f)) := .sl _ _ fun c hc => by
  obtain ⟨a, _, rfl⟩ := List.mem_map.1 hc; exact h a
theorem held_turn {M N : Nat → Prop} {I J : Imm} {s : Stash} {col : Nat → Option Nat} {k : Nat} (h : HeldD) (hK : ∀ b o u, s.L b → s.K b o = some u → J b o = some u ∧ N b ∧ col b = some k) {v : Value} (ha : AR M I (heldS s h) v) : AR N J (heldG col k h) v := by
  refine agg_turn ?_ ?_ (show AR M I (.agg _) v from ha)
  · rfl
  refine all2_cons (int_turn _ _) (all2_cons (int_turn _ _) ?_)
  iterate 17 refine all2_cons (int_turn _ _) ?_
  exact all2_cons (put_turn rfl (ints_wide _ _ fun a => .int _ _) (ints_marked _ _ fun a => .int _ _) hK) (all2_cons (put_turn rfl (ints_wide _ _ fun a => .str _) (ints_marked _ _ fun a => .str _) hK) (all2_cons (int_turn _ _) all2_nil))
/-- Rows of many colours: the k-th bears the colour k. -/
def rowG (col : Nat → Option Nat) (l : List HeldD) : List AV := l.zipIdx.map fun p => heldG col p.2 p.1
theorem rowG_len (col : Nat → Option Nat) (l : List HeldD) : (rowG col l).length = l.length := by simp [rowG]
theorem rowG_get {col : Nat → Option Nat} {l : List HeldD} {k : Nat} {e : AV} (h : (rowG col l)[k]? = some e) : ∃ x, l[k]? = some x ∧ e = heldG col k x := by
  unfold rowG at h
  rw [List.getElem?_map, List.getElem?_zipIdx] at h
  cases e1 : l[k]? with
  | none => rw [e1] at h; cases h
  | some x =>
    rw [e1] at h
    simp only [Option.map_some, Nat.zero_add, Option.some.injEq] at h
    exact ⟨x, rfl, h.symm⟩
theorem g_Helds (l : List HeldD) (hl : l.length * 208 ≤ reachBytes) (hok : ∀ a ∈ l, a.ok) : Ghost Try.prog 97 [limbo l] (fun col => .own false 22 (rowG col l)) := by
  refine ⟨⟨_, _, Try.func97, by kernel_rfl, rfl⟩, fun I w vs gs hI hreps hnd => (run_Helds l hl hok hI hreps hnd).mono ?_⟩
  rintro e w' ⟨ss, v, I', gs', own', st, rfl, q1, q2, q3, q4, q5, q6, q7, ⟨rfl, hlen⟩, hst, hmine⟩
  have uniq : ∀ (j k : Nat) s t b, st.reverse[j]? = some s → st.reverse[k]? = some t → s.B b → t.B b → j = k := by
    have hp : st.reverse.Pairwise fun s t => ∀ b, s.B b → ¬ t.B b := List.pairwise_reverse.2 (hst.apart.imp fun h b h1 h2 => h b h2 h1)
    rw [List.pairwise_iff_getElem] at hp
    intro j k s t b e1 e2 h1 h2
    obtain ⟨hj, rfl⟩ := List.getElem?_eq_some_iff.1 e1
    obtain ⟨hk, rfl⟩ := List.getElem?_eq_some_iff.1 e2
    rcases Nat.lt_trichotomy j k with h | h | h
    · exact (hp j k hj hk h b h1 h2).elim
    · exact h
    · exact (hp k j hk hj h b h2 h1).elim
  have hmem : ∀ (k : Nat) s, st.reverse[k]? = some s → s ∈ st := fun k s e => List.mem_reverse.1 (List.mem_of_getElem? e)
  obtain ⟨col, hcol⟩ : ∃ col : Nat → Option Nat, ∀ (k : Nat) s b, st.reverse[k]? = some s → s.B b → col b = some k := by
    classical
    refine ⟨fun b => if h : ∃ k : Nat, ∃ s : Stash, st.reverse[k]? = some s ∧ s.B b then some h.choose else none, fun k s b e hb => ?_⟩
    have h : ∃ k : Nat, ∃ s : Stash, st.reverse[k]? = some s ∧ s.B b := ⟨k, s, e, hb⟩
    dsimp only
    rw [dif_pos h]
    obtain ⟨t, e2, h2⟩ := h.choose_spec
    rw [uniq _ _ t s b e2 e h2 hb]
  have same : ∀ s t b, s ∈ st → t ∈ st → s.B b → t.B b → s = t := fun s t b hs ht h1 h2 => by
    obtain ⟨j, ej⟩ := List.getElem?_of_mem (List.mem_reverse.2 hs)
    obtain ⟨k, ek⟩ := List.getElem?_of_mem (List.mem_reverse.2 ht)
    have := uniq j k s t b ej ek h1 h2
    subst this
    rw [ej] at ek
    exact Option.some.inj ek
  obtain ⟨J, hJ1, hJ2⟩ : ∃ J : Imm, (∀ (k : Nat) s b o, st.reverse[k]? = some s → s.B b → J b o = s.K b o) ∧ ∀ b o, (∀ s ∈ st, ¬ s.B b) → J b o = I' b o := by
    classical
    refine ⟨fun b o => if h : ∃ s : Stash, s ∈ st ∧ s.B b then h.choose.K b o else I' b o, fun k s b o e hb => ?_, fun b o hn => ?_⟩
    · have h : ∃ s : Stash, s ∈ st ∧ s.B b := ⟨s, hmem k s e, hb⟩
      dsimp only
      rw [dif_pos h, same _ s b h.choose_spec.1 (hmem k s e) h.choose_spec.2 hb]
    · dsimp only
      rw [dif_neg]
      rintro ⟨s, hs, hb⟩
      exact hn s hs hb
  have hJc : ∀ b o u, J b o = some u → I' b o = some u ∨ ∃ (k : Nat) (s : Stash), st.reverse[k]? = some s ∧ s.B b ∧ s.K b o = some u := by
    intro b o u hu
    by_cases h : ∃ k : Nat, ∃ s : Stash, st.reverse[k]? = some s ∧ s.B b
    · obtain ⟨k, s, e, hb⟩ := h
      exact .inr ⟨k, s, e, hb, by rw [← hJ1 k s b o e hb]; exact hu⟩
    · rw [hJ2 b o fun s hs hb => h (by obtain ⟨k, e⟩ := List.getElem?_of_mem (List.mem_reverse.2 hs); exact ⟨k, s, e, hb⟩)] at hu
      exact .inl hu
  have hle : Imm.le I' J := fun b o u hu => by
    rw [hJ2 b o fun s hs hb => by rw [(hst.ok s hs).gap b o hb] at hu; cases hu]
    exact hu
  have hfresh : ∀ s, s ∈ st → ∀ b, s.B b → w.heap.size ≤ b ∨ b ∈ gs := fun s hs b hb => (hmine b _ ((hst.ok s hs).ours b hb)).1
  refine ⟨col, v, J, gs', rfl, q1.trans hle, fun b o u hu => ?_, q3, fun b o u hu => ?_, ?_, q6, fun g hg => ⟨(q7 g hg).1, (q7 g hg).2.1⟩⟩
  · rcases hJc b o u hu with h | ⟨k, s, e, hb, h⟩
    · exact q2 b o u h
    · have ho := hst.ok s (hmem k s e)
      exact (ho.cells b o u (ho.sub b hb) h).1
  · rcases hJc b o u hu with h | ⟨k, s, e, hb, h⟩
    · exact q4 b o u h
    · exact .inr (hfresh s (hmem k s e) b hb)
  · have q5 : VRep (fun b => False ∨ w.heap.size ≤ b ∨ b ∈ gs) I' w' (.own false 22 (List.zipWith heldS st.reverse l)) v gs' := q5
    have hzl : (List.zipWith heldS st.reverse l).length = l.length := by simp [hlen]
    show VRep _ J w' (.own false 22 (rowG col l)) v gs'
    rcases q5 with ⟨rfl, h0, rfl⟩ | ⟨g, cap, rfl, rfl, hlt, hr⟩
    · have hl0 : l = [] := by rw [h0] at hzl; exact List.length_eq_zero_iff.1 hzl.symm
      subst hl0
      exact .inl ⟨rfl, rfl, rfl⟩
    · have hng : ∀ s, s ∈ st → ¬ s.B g := fun s hs hb => (q7 g (by simp)).2.2 ((hst.ok s hs).ours g hb)
      have hle := hr.le
      refine .inr ⟨g, cap, by rw [hzl, rowG_len], rfl, hlt, ⟨by rw [rowG_len, ← hzl]; exact hle, hr.capm, hr.cells, fun k e he => ?_, (fun e => by cases e), fun o ho => by rw [hJ2 g o hng]; exact hr.immn o (fun e => by cases e), hr.frz⟩⟩
      obtain ⟨x, ex, rfl⟩ := rowG_get he
      have hk : k < st.reverse.length := by
        have := (List.getElem?_eq_some_iff.1 ex).1
        rw [List.length_reverse]; omega
      obtain ⟨s, es⟩ : ∃ s, st.reverse[k]? = some s := ⟨_, List.getElem?_eq_getElem hk⟩
      obtain ⟨u, u1, u2, u3⟩ := hr.elems k (heldS s x) (by rw [List.getElem?_zipWith, es, ex])
      have ho := hst.ok s (hmem k s es)
      refine ⟨u, held_turn x (fun b o c hb hc => ?_) u1, u2, u3⟩
      have hB := ho.top b o c hb hc
      exact ⟨by rw [hJ1 k s b o es hB]; exact hc, hfresh s (hmem k s es) b hB, hcol k s b es hB⟩
end Go.Proofs.Ytpepfhbfooeoeaa.VA
end
section
namespace Go.Proofs.Ytpepfhbfooeoeaa.VA
open Go.RowKit

/-- Row by row: what is told of a slice of cells of one kind, in blocks that may be written. -/
def RowAt (I : Imm) (B : Nat → Prop) (ok : Value → Prop) (base : Option Addr) (n : Nat) : Prop :=
  n = 0 ∨ ∃ b o, base = some ⟨b, o, none⟩ ∧ B b ∧ ∀ i, i < n → ∃ u, I b (o + i) = some u ∧ ok u
set_option maxHeartbeats 8000000 in
set_option maxRecDepth 1000000 in
theorem walk_Tx (I : Imm) (B : Nat → Prop) (w : World) (c0 c1 c2 c3 c4 c5 c6 c7 c8 c9 c10 c11 c12 c13 c14 c15 c16 c17 c18 : Value) (hb : Option Addr) (hn hc : Nat) (bb : Option Addr) (bn bc : Nat)
    (hm : hn ≤ 9223372036854775807) (bm : bn ≤ 9223372036854775807)
    (h1 : RowAt I B (fun u => ∃ n, u = .int .u64 n) hb hn) (h2 : RowAt I B (fun u => ∃ s, u = .string s) bb bn) (hs : Sp I B w) (hB : ∀ b, B b → b < w.heap.size) :
    Calls Try.prog 89 #[.agg #[c0, c1, c2, c3, c4, c5, c6, c7, c8, c9, c10, c11, c12, c13, c14, c15, c16, c17, c18, .slice hb hn hc, .slice bb bn bc]] w fun e w' => e = .returned (.tuple #[]) ∧ SpG I B w w' := by
  obtain ⟨W, hW⟩ : ∃ W : World, W = w.alloc (.cells #[c0, c1, c2, c3, c4, c5, c6, c7, c8, c9, c10, c11, c12, c13, c14, c15, c16, c17, c18, .slice hb hn hc, .slice bb bn bc] 29) := ⟨_, rfl⟩
  have hg0 : SpG I B w W := by
    rw [hW]
    exact SpG.grow ⟨fr_refl _ _, hs⟩ (fr_alloc w _ fun j u _ => World.frozen?_alloc_new w _ _ j)
  have h19 : W.cell? ⟨w.heap.size, 19, none⟩ = some (.slice hb hn hc) := by rw [hW, World.cell?_alloc_new]; rfl
  have h20 : W.cell? ⟨w.heap.size, 20, none⟩ = some (.slice bb bn bc) := by rw [hW, World.cell?_alloc_new]; rfl
  go_enter Try.func89, Try.ntmps89
  go_wp2
  rw [← hW]
  have hBk : ∀ b, B b → b ≠ w.heap.size := fun b hb e => by
    have := hB b hb
    omega
  clear hW hs hB
  obtain ⟨k0, hk0⟩ : ∃ k0, k0 = w.heap.size := ⟨_, rfl⟩
  rw [← hk0] at h19 h20 hBk ⊢
  clear hk0
  refine wp_loop_ghost (fun n a w' => ∃ (i : Nat) (x4 x5 x6 x7 x8 x9 x10 x11 x12 x13 x14 : Value), (i ≤ hn ∧ n = hn - i) ∧ a = { tmps := #[.agg #[c0, c1, c2, c3, c4, c5, c6, c7, c8, c9, c10, c11, c12, c13, c14, c15, c16, c17, c18, .slice hb hn hc, .slice bb bn bc], .pointer (some ⟨k0, 0, none⟩), .int .i64 i, undef, x4, x5, x6, x7, x8, x9, x10, x11, x12, x13, x14, undef, undef, undef, undef, undef, undef, undef, undef, undef, undef, undef], defers := [] } ∧
    SpG I B w w' ∧ w'.cell? ⟨k0, 19, none⟩ = some (.slice hb hn hc) ∧ w'.cell? ⟨k0, 20, none⟩ = some (.slice bb bn bc)) hn ⟨0, _, _, _, _, _, _, _, _, _, _, _, ⟨Nat.zero_le _, rfl⟩, rfl, hg0, h19, h20⟩ ?_
  clear hg0 h19 h20
  rintro n a w' ⟨i, x4, x5, x6, x7, x8, x9, x10, x11, x12, x13, x14, ⟨hi, hni⟩, rfl, hg, h19, h20⟩
  have A : Aside (n = hn - i) := hni
  clear hni
  rcases Nat.lt_or_ge i hn with hlt | hge
  · rcases h1 with h1 | ⟨b, o, rfl, hBb, hrow⟩
    · omega
    obtain ⟨u, hu, nn, rfl⟩ := hrow i hlt
    obtain ⟨u', q1, q2, q3⟩ := hg.sp.cells b (o + i) _ hBb hu
    have Q : Aside (I b (o + i) = some (.int .u64 nn) ∧ SpG I B w w' ∧ B b) := ⟨hu, hg, hBb⟩
    clear hu hg hrow hBb
    go_wp2
    obtain ⟨hu, hg, hBb⟩ := Q.out
    have hni := A.out
    have hne : k0 ≠ b := fun e => hBk b hBb e.symm
    refine ⟨hn - (i + 1), by omega, i + 1, _, _, _, _, _, _, _, _, _, _, _, ⟨by omega, rfl⟩, rfl, ?_, ?_, ?_⟩
    · refine hg.write (off := o + i) (vals := [.int .u64 99]) hBb (fun j hj => ?_) (fun j u v hu' hv => ?_)
      · obtain rfl : j = 0 := by simpa using hj
        rw [Nat.add_zero, q1]; rfl
      · obtain ⟨rfl, rfl⟩ := lget_one hv
        rw [Nat.add_zero, hu] at hu'
        cases hu'
        exact .int _ _ _
    · exact (World.cell?_setCells_out b [_] (o + i) w' ⟨k0, 19, none⟩ (fun e _ => absurd e hne)).trans h19
    · exact (World.cell?_setCells_out b [_] (o + i) w' ⟨k0, 20, none⟩ (fun e _ => absurd e hne)).trans h20
  · go_wp2
    clear A hge hi h19
    refine wp_loop_ghost (fun n a w' => ∃ (i : Nat) (x2 x4 x5 x6 x7 x8 x9 x10 x11 x12 x13 x14 x15 x16 x17 x18 x19 x20 x21 x22 x23 x24 x25 : Value), (i ≤ bn ∧ n = bn - i) ∧ a = { tmps := #[.agg #[c0, c1, c2, c3, c4, c5, c6, c7, c8, c9, c10, c11, c12, c13, c14, c15, c16, c17, c18, .slice hb hn hc, .slice bb bn bc], .pointer (some ⟨k0, 0, none⟩), x2, .int .i64 i, x4, x5, x6, x7, x8, x9, x10, x11, x12, x13, x14, x15, x16, x17, x18, x19, x20, x21, x22, x23, x24, x25], defers := [] } ∧
      SpG I B w w' ∧ w'.cell? ⟨k0, 20, none⟩ = some (.slice bb bn bc)) bn ⟨0, _, _, _, _, _, _, _, _, _, _, _, _, _, _, _, _, _, _, _, _, _, _, _, ⟨Nat.zero_le _, rfl⟩, rfl, hg, h20⟩ ?_
    clear hg h20
    rintro n a w' ⟨i, x2, x4, x5, x6, x7, x8, x9, x10, x11, x12, x13, x14, x15, x16, x17, x18, x19, x20, x21, x22, x23, x24, x25, ⟨hi, hni⟩, rfl, hg, h20⟩
    have A : Aside (n = bn - i) := hni
    clear hni
    rcases Nat.lt_or_ge i bn with hlt | hge
    · rcases h2 with h2 | ⟨b, o, rfl, hBb, hrow⟩
      · omega
      obtain ⟨u, hu, nn, rfl⟩ := hrow i hlt
      obtain ⟨u', q1, q2, q3⟩ := hg.sp.cells b (o + i) _ hBb hu
      have Q : Aside (I b (o + i) = some (.string nn) ∧ SpG I B w w' ∧ B b) := ⟨hu, hg, hBb⟩
      clear hu hg hrow hBb
      go_wp2
      obtain ⟨hu, hg, hBb⟩ := Q.out
      have hni := A.out
      have hne : k0 ≠ b := fun e => hBk b hBb e.symm
      refine ⟨bn - (i + 1), by omega, i + 1, _, _, _, _, _, _, _, _, _, _, _, _, _, _, _, _, _, _, _, _, _, _, _, ⟨by omega, rfl⟩, rfl, ?_, ?_⟩
      · refine hg.write (off := o + i) (vals := [.string ⟨#[63]⟩]) hBb (fun j hj => ?_) (fun j u v hu' hv => ?_)
        · obtain rfl : j = 0 := by simpa using hj
          rw [Nat.add_zero, q1]; rfl
        · obtain ⟨rfl, rfl⟩ := lget_one hv
          rw [Nat.add_zero, hu] at hu'
          cases hu'
          exact .str _ _
      · exact (World.cell?_setCells_out b [_] (o + i) w' ⟨k0, 20, none⟩ (fun e _ => absurd e hne)).trans h20
    · go_wp2
      go_end0
      exact ⟨rfl, hg⟩
theorem arr21 (a : Array Value) (h : a.size = 21) : ∃ c0 c1 c2 c3 c4 c5 c6 c7 c8 c9 c10 c11 c12 c13 c14 c15 c16 c17 c18 c19 c20, a = #[c0, c1, c2, c3, c4, c5, c6, c7, c8, c9, c10, c11, c12, c13, c14, c15, c16, c17, c18, c19, c20] := by
  rcases a with ⟨l⟩
  match l, h with
  | [c0, c1, c2, c3, c4, c5, c6, c7, c8, c9, c10, c11, c12, c13, c14, c15, c16, c17, c18, c19, c20], _ => exact ⟨c0, c1, c2, c3, c4, c5, c6, c7, c8, c9, c10, c11, c12, c13, c14, c15, c16, c17, c18, c19, c20, rfl⟩
theorem KinV.agg {vs : Array Value} {v' : Value} (h : KinV (.agg vs) v') (hs : 2 ≤ vs.size) : ∃ vs', v' = .agg vs' ∧ vs'.size = vs.size ∧ ∀ (j : Nat) u u', vs[j]? = some u → vs'[j]? = some u' → Kin u u' := by
  obtain ⟨h1, h2⟩ := h
  have h1 : vs.size = v'.cells.size := h1
  cases v' with
  | agg vs' => exact ⟨vs', rfl, h1.symm, h2⟩
  | tuple vs' => simp [Value.cells] at h1; omega
  | _ => simp [Value.cells] at h1; omega
theorem row_at {I : Imm} {B : Nat → Prop} {α : Type} {f : α → AV} {l : List α} {ok : Value → Prop} {u u' : Value} (h : AR B I (.sl true 1 (l.map f)) u) (hk : Kin u u') (hf : ∀ x v, AR B I (f x) v → v.oneCell' = true ∧ ok v) :
    ∃ base n cap, u' = .slice base n cap ∧ n ≤ l.length ∧ RowAt I B ok base n := by
  obtain ⟨base, n, cap, rfl, hr⟩ := row_now h hk
  refine ⟨base, n, cap, rfl, ?_⟩
  rcases hr with rfl | ⟨hn, b, o, rfl, hb, vs, hv, hz, hI⟩
  · exact ⟨Nat.zero_le _, .inl rfl⟩
  · rw [List.length_map] at hn
    refine ⟨by omega, .inr ⟨b, o, rfl, hb, fun i hi => ?_⟩⟩
    have hi' : i < (l.map f).length := by rw [List.length_map]; omega
    obtain ⟨x, ex⟩ : ∃ x, l[i]? = some x := ⟨_, List.getElem?_eq_getElem (by omega)⟩
    obtain ⟨q1, q2⟩ := hf x _ (hv i (f x) (by rw [List.getElem?_map, ex]; rfl))
    refine ⟨vs i, ?_, q2⟩
    have := hI i 0 (vs i) hi' (by rw [cells_one q1]; rfl)
    rw [Nat.mul_one, Nat.add_zero] at this
    exact this
/-- tarnlaw0.Tx, at a transaction as it stands now. -/
theorem calls_Tx {I : Imm} {B : Nat → Prop} {w : World} {cs : List AV} {hs : List Int} {bs : List (List UInt8)} {v v' : Value} (hx : AR B I (.agg cs) v) (hlen : cs.length = 21) (h19 : cs[19]? = some (.sl true 1 (hs.map (AV.int .u64)))) (h20 : cs[20]? = some (.sl true 1 (bs.map AV.str)))
    (hm : hs.length ≤ 9223372036854775807) (bm : bs.length ≤ 9223372036854775807) (hk : KinV v v') (hsp : Sp I B w) (hB : ∀ b, B b → b < w.heap.size) :
    Calls Try.prog 89 #[v'] w fun e w' => e = .returned (.tuple #[]) ∧ SpG I B w w' := by
  cases hx with
  | agg _ vs hl h1 hcs =>
    obtain ⟨vs', rfl, hs', hkk⟩ := hk.agg (by omega)
    obtain ⟨c0, c1, c2, c3, c4, c5, c6, c7, c8, c9, c10, c11, c12, c13, c14, c15, c16, c17, c18, c19, c20, rfl⟩ := arr21 vs' (by omega)
    have e19 := hcs 19 _ _ h19 (Array.getElem?_eq_getElem (by omega))
    have e20 := hcs 20 _ _ h20 (Array.getElem?_eq_getElem (by omega))
    obtain ⟨hb, hn, hc, rfl, n1, r1⟩ := row_at (ok := fun u => ∃ n, u = .int .u64 n) e19 (hkk 19 _ _ (Array.getElem?_eq_getElem (by omega)) rfl) (fun x v h => by cases h; exact ⟨rfl, _, rfl⟩)
    obtain ⟨bb, bn, bc, rfl, n2, r2⟩ := row_at (ok := fun u => ∃ s, u = .string s) e20 (hkk 20 _ _ (Array.getElem?_eq_getElem (by omega)) rfl) (fun x v h => by cases h; exact ⟨rfl, _, rfl⟩)
    exact walk_Tx I B w _ _ _ _ _ _ _ _ _ _ _ _ _ _ _ _ _ _ _ hb hn hc bb bn bc (by omega) (by omega) r1 r2 hsp hB
end Go.Proofs.Ytpepfhbfooeoeaa.VA
end
section
namespace Go.Proofs.Ytpepfhbfooeoeaa.VA
open Go.RowKit

theorem dull_wide (t : TxD) : Wide t.dull := .agg _ fun c hc => by
  simp only [List.mem_cons, List.not_mem_nil, or_false] at hc
  rcases hc with rfl | rfl | rfl | rfl | rfl | rfl | rfl | rfl | rfl | rfl | rfl | rfl | rfl | rfl | rfl | rfl | rfl | rfl | rfl | rfl | rfl <;> first | exact .int _ _ | exact .sl _ _ _ (by decide) (fun c hc => by obtain ⟨x, _, rfl⟩ := List.mem_map.1 hc; first | exact .int _ _ | exact .str _)
theorem kinV_refl (v : Value) : KinV v v := ⟨rfl, fun j u u' h1 h2 => by rw [h1] at h2; cases h2; exact .same _⟩
/-- What an element's cells may turn to. -/
inductive KZ : AV → Value → Prop
  | int (k : IntKind) (n m : Int) : KZ (.int k n) (.int k m)
  | str (s : List UInt8) (t : ByteArray) : KZ (.str s) (.string t)
  | bool (a b : Bool) : KZ (.bool a) (.bool b)
  | sl (fr : Bool) (sz : Nat) (es : List AV) : KZ (.sl fr sz es) (.slice none 0 0)
theorem KZ.kin {M : Nat → Prop} {I : Imm} {c : AV} {u z : Value} (h : KZ c z) (ha : AR M I c u) : Kin u z := by
  cases h with
  | int k n m => cases ha; exact .int _ _ _
  | str s t => cases ha; exact .str _ _
  | bool a b => cases ha; exact .bool _ _
  | sl fr sz es => cases ha <;> exact .nil _ _ _
theorem kz_nil : ∀ (j : Nat) c z, ([] : List AV)[j]? = some c → ([] : List Value)[j]? = some z → KZ c z := fun j c z h => by cases h
theorem kz_cons {x : AV} {z : Value} {xs : List AV} {zs : List Value} (h : KZ x z) (hr : ∀ (j : Nat) c z, xs[j]? = some c → zs[j]? = some z → KZ c z) : ∀ (j : Nat) c u, (x :: xs)[j]? = some c → (z :: zs)[j]? = some u → KZ c u := fun j c u hc hu => by
  cases j with
  | zero =>
    simp only [List.getElem?_cons_zero, Option.some.injEq] at hc hu
    subst hc hu; exact h
  | succ j => exact hr j c u (by simpa using hc) (by simpa using hu)
/-- The cells of an element, as they stand now. -/
theorem elem_now {I : Imm} {B : Nat → Prop} {w0 w : World} (h : SpG I B w0 w) {b off sz : Nat} {v : Value} (hb : B b) (hs : v.cells.size = sz) (hI : ∀ (j : Nat) c, v.cells[j]? = some c → I b (off + j) = some c) :
    ∃ us : List Value, us.length = sz ∧ (∀ j, j < sz → w.cell? ⟨b, off + j, none⟩ = us[j]? ∧ w.frozen? ⟨b, off + j, none⟩ = false) ∧ ∀ (j : Nat) u u', v.cells[j]? = some u → us[j]? = some u' → Kin u u' := by
  refine ⟨(List.range sz).map fun j => (w.cell? ⟨b, off + j, none⟩).getD undef, by simp, fun j hj => ?_, fun j u u' hu hu' => ?_⟩
  · obtain ⟨u', h1, h2, _⟩ := h.sp.cells b (off + j) _ hb (hI j _ (Array.getElem?_eq_getElem (by omega)))
    refine ⟨?_, h2⟩
    rw [List.getElem?_map, List.getElem?_range hj, h1]
    simp [h1]
  · have hj : j < sz := by rw [← hs]; exact (Array.getElem?_eq_some_iff.1 hu).1
    obtain ⟨u2, h1, _, h3⟩ := h.sp.cells b (off + j) u hb (hI j u hu)
    rw [List.getElem?_map, List.getElem?_range hj] at hu'
    simp only [Option.map_some, Option.some.injEq, h1, Option.getD_some] at hu'
    subst hu'; exact h3
/-- An element is written over. -/
theorem elem_write {I : Imm} {B : Nat → Prop} {w0 w : World} (h : SpG I B w0 w) {b off sz : Nat} {e : AV} {v z : Value} (hb : B b) (hv : AR B I e v) (hs : v.cells.size = sz) (hI : ∀ (j : Nat) c, v.cells[j]? = some c → I b (off + j) = some c)
    (hz : z.cells.size = sz) (hk : ∀ (j : Nat) c u, e.flat[j]? = some c → z.cells.toList[j]? = some u → KZ c u) : SpG I B w0 (w.setCells b off z.cells.toList) := by
  refine h.write hb (fun j hj => ?_) fun j u u' hu hu' => ?_
  · have hj : j < v.cells.size := by rw [hs, ← hz]; simpa using hj
    obtain ⟨u', h1, _, _⟩ := h.sp.cells b (off + j) _ hb (hI j _ (Array.getElem?_eq_getElem hj))
    rw [h1]; rfl
  · have hj : j < v.cells.size := by
      have := (List.getElem?_eq_some_iff.1 hu').1
      rw [hs, ← hz]; simpa using this
    have h1 := hI j _ (Array.getElem?_eq_getElem hj)
    rw [hu] at h1
    cases h1
    have hf : j < e.flat.length := by rw [hv.flen]; exact hj
    exact (hk j _ u' (List.getElem?_eq_getElem hf) hu').kin (hv.fcell j _ _ (List.getElem?_eq_getElem hf) (Array.getElem?_eq_getElem hj))

def zeroT : Value := .agg #[.int .i64 (-9), .int .i64 0, .int .u64 0, .int .u64 0, .int .u64 0, .int .u64 0, .int .u64 0, .int .u64 0, .int .u64 0, .int .u64 0, .int .u64 0, .int .u64 0, .int .u64 0, .int .u64 0, .int .u64 0, .int .u64 0, .int .u64 0, .int .u64 0, .int .i64 0, .slice none 0 0, .slice none 0 0]
theorem kz_tx (t : TxD) : ∀ (j : Nat) c u, t.dull.flat[j]? = some c → zeroT.cells.toList[j]? = some u → KZ c u := by
  refine kz_cons (.int _ _ _) (kz_cons (.int _ _ _) ?_)
  repeat' (first | exact kz_nil | exact KZ.int _ _ _ | exact KZ.sl _ _ _ | refine kz_cons ?_ ?_)
set_option maxHeartbeats 8000000 in
set_option maxRecDepth 1000000 in
theorem walk_Txs (I : Imm) (B : Nat → Prop) (w : World) (l : List TxD) (hok : ∀ t ∈ l, t.ok) (hl : l.length ≤ 4611686018427387904) (v : Value) (hx : AR B I (.sl true 21 (l.map TxD.dull)) v) (hs : Sp I B w) (hB : ∀ b, B b → b < w.heap.size) :
    Calls Try.prog 36 #[v] w fun e w' => e = .returned (.tuple #[]) ∧ SpG I B w w' := by
  obtain ⟨base, n, cap, rfl, hr⟩ := row_now hx (.same v)
  have hn : n ≤ 4611686018427387904 := by
    rcases hr with rfl | ⟨rfl, _⟩
    · omega
    · rw [List.length_map]; exact hl
  have hg0 : SpG I B w w := ⟨fr_refl _ _, hs⟩
  clear hx
  go_enter Try.func36, Try.ntmps36
  go_wp2
  refine wp_loop_ghost (fun m a w' => ∃ (i : Nat) (x3 x4 x5 x6 x7 x8 x9 x10 x11 x12 x13 x14 x15 x16 x17 : Value), (i ≤ n ∧ m = n - i) ∧ a = { tmps := #[.slice base n cap, undef, .int .i64 i, x3, x4, x5, x6, x7, x8, x9, x10, x11, x12, x13, x14, x15, x16, x17], defers := [] } ∧ SpG I B w w') n
    ⟨0, _, _, _, _, _, _, _, _, _, _, _, _, _, _, _, ⟨Nat.zero_le _, rfl⟩, rfl, hg0⟩ ?_
  clear hg0 hs
  rintro m a w' ⟨i, x3, x4, x5, x6, x7, x8, x9, x10, x11, x12, x13, x14, x15, x16, x17, ⟨hi, hmi⟩, rfl, hg⟩
  have A : Aside (m = n - i) := hmi
  clear hmi
  rcases Nat.lt_or_ge i n with hlt | hge
  · rcases hr with rfl | ⟨hnl, b, o, rfl, hBb, vs, hv, hz, hI⟩
    · omega
    rw [List.length_map] at hnl
    obtain ⟨t, et⟩ : ∃ t, l[i]? = some t := ⟨_, List.getElem?_eq_getElem (by omega)⟩
    have hto := hok t (List.mem_of_getElem? et)
    have hvi : AR B I t.dull (vs i) := hv i _ (by rw [List.getElem?_map, et]; rfl)
    have hzi := hz i (by rw [List.length_map]; omega)
    have hIi : ∀ (j : Nat) c, (vs i).cells[j]? = some c → I b (o + i * 21 + j) = some c := fun j c hj => hI i j c (by rw [List.length_map]; omega) hj
    obtain ⟨us, u1, u2, u3⟩ := elem_now hg hBb hzi hIi
    have hfit := (cf_ok 0 [] (fun _ => [])).fit 29 (by rfl)
    have hload : (Go.loadVar 29 ⟨b, o + i * 21, none⟩).run Try.prog w' = .ok (.agg us.toArray) w' := loadVar_agg (n := 21) (fit_isAgg hfit w') (fit_sizeOf hfit w') us u1 fun j u hj => by
      rw [Addr.add_lit, (u2 j (by rw [← u1]; exact (List.getElem?_eq_some_iff.1 hj).1)).1]; exact hj
    have h1 := hto.hashes
    have h2 := hto.blobs
    unfold reachBytes at h1 h2
    have hkv : KinV (vs i) (.agg us.toArray) := ⟨by rw [hzi]; show 21 = us.toArray.size; simp [u1], fun j u u' hu hu' => u3 j u u' hu (by simpa [Value.cells] using hu')⟩
    have hcall := calls_Tx (w := w') (hs := t.hashes) (bs := t.blobs) hvi rfl rfl rfl (by omega) (by omega) hkv hg.sp fun b hb => Nat.lt_of_lt_of_le (hB b hb) hg.fr.size
    have hst : ∀ w2, SpG I B w' w2 → (Instr.storeAt 29 (.pointer (some ⟨b, o + i * 21, none⟩)) zeroT).run Try.prog w2 = .ok () (w2.setCells b (o + i * 21) zeroT.cells.toList) := fun w2 hg2 =>
      (run_storeAt (n := 21) rfl (fit_sizeOf hfit w2) rfl (fun j hj => by
        obtain ⟨u', q1, q2, _⟩ := hg2.sp.cells b (o + i * 21 + j) _ hBb (hIi j _ (Array.getElem?_eq_getElem (by rw [hzi]; exact hj)))
        exact ⟨u', q1, q2⟩) (by decide)).1
    have Q : Aside ((SpG I B w w' ∧ B b) ∧ AR B I t.dull (vs i) ∧ (vs i).cells.size = 21 ∧ (∀ (j : Nat) c, (vs i).cells[j]? = some c → I b (o + i * 21 + j) = some c)) := ⟨⟨hg, hBb⟩, hvi, hzi, hIi⟩
    clear hg hBb hvi hzi hIi hv hz hI u1 u2 u3 hkv hnl et hto h1 h2
    go_wp2_with (first | (refine wpList_load rfl 29 _ (by rfl) (by rfl) (by exact hload) ?_) | (go_at_call 89; refine hcall.mono ?_; rintro e w2 ⟨rfl, hg2⟩) | (refine wpList_store rfl 29 _ _ (by rfl) (by rfl) (by rfl) (by rfl) (by exact hst _ (by assumption)) ?_; generalize hW2 : World.setCells _ _ _ _ = W2))
    obtain ⟨⟨hg, hBb⟩, hvi, hzi, hIi⟩ := Q.out
    have hmi := A.out
    refine ⟨n - (i + 1), by omega, i + 1, _, _, _, _, _, _, _, _, _, _, _, _, _, _, _, ⟨by omega, rfl⟩, rfl, ?_⟩
    rw [← hW2]
    exact elem_write (z := zeroT) (hg.called (by assumption)) hBb hvi hzi hIi rfl (kz_tx t)
  · go_wp2
    go_end0
    exact ⟨rfl, hg⟩
theorem dulls_wide (l : List TxD) : Wide (.sl true 21 (l.map TxD.dull)) := .sl _ _ _ (by decide) fun c hc => by
  obtain ⟨t, _, rfl⟩ := List.mem_map.1 hc
  exact dull_wide t
theorem spoil_Txs (l : List TxD) (hok : ∀ t ∈ l, t.ok) (hl : l.length ≤ 4611686018427387904) : Spoil Try.prog 36 (.sl true 21 (l.map TxD.dull)) :=
  spoil_of (dulls_wide l) ⟨_, _, Try.func36, by kernel_rfl, rfl⟩ fun I B w v hx hs hB => walk_Txs I B w l hok hl v hx hs hB
end Go.Proofs.Ytpepfhbfooeoeaa.VA
end
section
namespace Go.Proofs.Ytpepfhbfooeoeaa.VA
open Go.RowKit

theorem hdull_eq (h : HeldD) : h.dull = .agg (h.t.cellsT ++ [.int .i64 h.n]) := rfl
theorem cells_wide (t : TxD) : ∀ c ∈ t.cellsT, Wide c := by
  have := dull_wide t
  rw [dull_eq] at this
  cases this with
  | agg _ h => exact h
theorem hdull_wide (h : HeldD) : Wide h.dull := by
  rw [hdull_eq]
  refine .agg _ fun c hc => ?_
  rcases List.mem_append.1 hc with h1 | h1
  · exact cells_wide h.t c h1
  · rw [List.mem_singleton.1 h1]; exact .int _ _
/-- The transaction's part of one held. -/
theorem ar_front {M : Nat → Prop} {I : Imm} {cs : List AV} {x : AV} {v : Value} (h : AR M I (.agg (cs ++ [x])) v) : ∃ u, AR M I (.agg cs) u ∧ u.cells.size = cs.length ∧ ∀ (j : Nat) c, u.cells[j]? = some c → v.cells[j]? = some c := by
  cases h with
  | agg _ vs hl h1 h2 =>
    have hl2 : vs.size = cs.length + 1 := by rw [← hl]; simp
    have hget : ∀ (j : Nat) c, (vs.toList.take cs.length).toArray[j]? = some c → vs[j]? = some c := by
      intro j c hj
      rw [List.getElem?_toArray, List.getElem?_take] at hj
      split at hj
      · simpa using hj
      · cases hj
    refine ⟨.agg (vs.toList.take cs.length).toArray, .agg _ _ (by simp; omega) (fun j u hu => h1 j u (hget j u hu)) (fun j c u hc hu => h2 j c u ?_ (hget j u hu)), by show (vs.toList.take cs.length).toArray.size = _; simp; omega, hget⟩
    rw [List.getElem?_append_left (List.getElem?_eq_some_iff.1 hc).1]; exact hc
def zeroH9 : Value := .agg #[.int .i64 0, .int .i64 0, .int .u64 0, .int .u64 0, .int .u64 0, .int .u64 0, .int .u64 0, .int .u64 0, .int .u64 0, .int .u64 0, .int .u64 0, .int .u64 0, .int .u64 0, .int .u64 0, .int .u64 0, .int .u64 0, .int .u64 0, .int .u64 0, .int .i64 0, .slice none 0 0, .slice none 0 0, .int .i64 (-9)]
theorem kz_held (h : HeldD) : ∀ (j : Nat) c u, h.dull.flat[j]? = some c → zeroH9.cells.toList[j]? = some u → KZ c u := by
  refine kz_cons (.int _ _ _) (kz_cons (.int _ _ _) ?_)
  repeat' (first | exact kz_nil | exact KZ.int _ _ _ | exact KZ.sl _ _ _ | refine kz_cons ?_ ?_)
set_option maxHeartbeats 8000000 in
set_option maxRecDepth 1000000 in
theorem walk_Limbo (I : Imm) (B : Nat → Prop) (w : World) (l : List HeldD) (hok : ∀ t ∈ l, t.ok) (hl : l.length ≤ 4611686018427387904) (v : Value) (hx : AR B I (.sl true 22 (l.map HeldD.dull)) v) (hs : Sp I B w) (hB : ∀ b, B b → b < w.heap.size) :
    Calls Try.prog 55 #[v] w fun e w' => e = .returned (.tuple #[]) ∧ SpG I B w w' := by
  obtain ⟨base, n, cap, rfl, hr⟩ := row_now hx (.same v)
  have hn : n ≤ 4611686018427387904 := by
    rcases hr with rfl | ⟨rfl, _⟩
    · omega
    · rw [List.length_map]; exact hl
  have hg0 : SpG I B w w := ⟨fr_refl _ _, hs⟩
  clear hx
  go_enter Try.func55, Try.ntmps55
  go_wp2
  refine wp_loop_ghost (fun m a w' => ∃ (i : Nat) (x3 x4 x5 x6 x7 x8 x9 x10 x11 x12 x13 x14 x15 x16 x17 x18 : Value), (i ≤ n ∧ m = n - i) ∧ a = { tmps := #[.slice base n cap, undef, .int .i64 i, x3, x4, x5, x6, x7, x8, x9, x10, x11, x12, x13, x14, x15, x16, x17, x18], defers := [] } ∧ SpG I B w w') n
    ⟨0, _, _, _, _, _, _, _, _, _, _, _, _, _, _, _, _, ⟨Nat.zero_le _, rfl⟩, rfl, hg0⟩ ?_
  clear hg0 hs
  rintro m a w' ⟨i, x3, x4, x5, x6, x7, x8, x9, x10, x11, x12, x13, x14, x15, x16, x17, x18, ⟨hi, hmi⟩, rfl, hg⟩
  have A : Aside (m = n - i) := hmi
  clear hmi
  rcases Nat.lt_or_ge i n with hlt | hge
  · rcases hr with rfl | ⟨hnl, b, o, rfl, hBb, vs, hv, hz, hI⟩
    · omega
    rw [List.length_map] at hnl
    obtain ⟨t, et⟩ : ∃ t, l[i]? = some t := ⟨_, List.getElem?_eq_getElem (by omega)⟩
    have hto := (hok t (List.mem_of_getElem? et)).t
    have hvi : AR B I t.dull (vs i) := hv i _ (by rw [List.getElem?_map, et]; rfl)
    have hzi := hz i (by rw [List.length_map]; omega)
    have hIi : ∀ (j : Nat) c, (vs i).cells[j]? = some c → I b (o + i * 22 + j) = some c := fun j c hj => hI i j c (by rw [List.length_map]; omega) hj
    obtain ⟨ut, hut, hus, huc⟩ := ar_front (hdull_eq t ▸ hvi)
    have hus : ut.cells.size = 21 := hus
    obtain ⟨us, u1, u2, u3⟩ := elem_now hg hBb hus (fun j c hj => hIi j c (huc j c hj))
    have hfit := (cf_ok 0 [] (fun _ => [])).fit 29 (by rfl)
    have hfitH := (cf_ok 0 [] (fun _ => [])).fit 90 (by rfl)
    have hload : (Go.loadVar 29 ⟨b, o + i * 22, none⟩).run Try.prog w' = .ok (.agg us.toArray) w' := loadVar_agg (n := 21) (fit_isAgg hfit w') (fit_sizeOf hfit w') us u1 fun j u hj => by
      rw [Addr.add_lit, (u2 j (by rw [← u1]; exact (List.getElem?_eq_some_iff.1 hj).1)).1]; exact hj
    have h1 := hto.hashes
    have h2 := hto.blobs
    unfold reachBytes at h1 h2
    have hkv : KinV ut (.agg us.toArray) := ⟨by rw [hus]; show 21 = us.toArray.size; simp [u1], fun j u u' hu hu' => u3 j u u' hu (by simpa [Value.cells] using hu')⟩
    have hcall := calls_Tx (w := w') (hs := t.t.hashes) (bs := t.t.blobs) hut rfl rfl rfl (by omega) (by omega) hkv hg.sp fun b hb => Nat.lt_of_lt_of_le (hB b hb) hg.fr.size
    have hst : ∀ w2, SpG I B w' w2 → (Instr.storeAt 90 (.pointer (some ⟨b, o + i * 22, none⟩)) zeroH9).run Try.prog w2 = .ok () (w2.setCells b (o + i * 22) zeroH9.cells.toList) := fun w2 hg2 =>
      (run_storeAt (n := 22) rfl (fit_sizeOf hfitH w2) rfl (fun j hj => by
        obtain ⟨u', q1, q2, _⟩ := hg2.sp.cells b (o + i * 22 + j) _ hBb (hIi j _ (Array.getElem?_eq_getElem (by rw [hzi]; exact hj)))
        exact ⟨u', q1, q2⟩) (by decide)).1
    have Q : Aside ((SpG I B w w' ∧ B b) ∧ AR B I t.dull (vs i) ∧ (vs i).cells.size = 22 ∧ (∀ (j : Nat) c, (vs i).cells[j]? = some c → I b (o + i * 22 + j) = some c)) := ⟨⟨hg, hBb⟩, hvi, hzi, hIi⟩
    clear hg hBb hvi hzi hIi hv hz hI u1 u2 u3 hkv hnl et hto h1 h2 hut hus huc
    go_wp2_with (first | (refine wpList_load rfl 29 _ (by rfl) (by rfl) (by exact hload) ?_) | (go_at_call 89; refine hcall.mono ?_; rintro e w2 ⟨rfl, hg2⟩) | (refine wpList_store rfl 90 _ _ (by rfl) (by rfl) (by rfl) (by rfl) (by exact hst _ (by assumption)) ?_; generalize hW2 : World.setCells _ _ _ _ = W2))
    obtain ⟨⟨hg, hBb⟩, hvi, hzi, hIi⟩ := Q.out
    have hmi := A.out
    refine ⟨n - (i + 1), by omega, i + 1, _, _, _, _, _, _, _, _, _, _, _, _, _, _, _, _, ⟨by omega, rfl⟩, rfl, ?_⟩
    rw [← hW2]
    exact elem_write (z := zeroH9) (hg.called (by assumption)) hBb hvi hzi hIi rfl (kz_held t)
  · go_wp2
    go_end0
    exact ⟨rfl, hg⟩
theorem hdulls_wide (l : List HeldD) : Wide (.sl true 22 (l.map HeldD.dull)) := .sl _ _ _ (by decide) fun c hc => by
  obtain ⟨t, _, rfl⟩ := List.mem_map.1 hc
  exact hdull_wide t
theorem spoil_Limbo (l : List HeldD) (hok : ∀ t ∈ l, t.ok) (hl : l.length ≤ 4611686018427387904) : Spoil Try.prog 55 (.sl true 22 (l.map HeldD.dull)) :=
  spoil_of (hdulls_wide l) ⟨_, _, Try.func55, by kernel_rfl, rfl⟩ fun I B w v hx hs hB => walk_Limbo I B w l hok hl v hx hs hB
end Go.Proofs.Ytpepfhbfooeoeaa.VA
end
section
namespace Go.Proofs.Ytpepfhbfooeoeaa.VA
set_option maxRecDepth 10000
set_option maxHeartbeats 16000000

theorem place_unique {l : List HeldD} {id : Int} {p q : Nat} (hp : PlaceOf l id p) (hq : PlaceOf l id q) : p = q := by
  rcases Nat.lt_trichotomy p q with h | h | h
  · obtain ⟨x, ex⟩ : ∃ x, l[p]? = some x := ⟨_, List.getElem?_eq_getElem (Nat.lt_of_lt_of_le h hq.1)⟩
    have h1 := hp.2 p x ex
    have h2 := hq.2 p x ex
    omega
  · exact h
  · obtain ⟨x, ex⟩ : ∃ x, l[q]? = some x := ⟨_, List.getElem?_eq_getElem (Nat.lt_of_lt_of_le h hp.1)⟩
    have h1 := hp.2 q x ex
    have h2 := hq.2 q x ex
    omega
theorem sorted_lt' {l : List HeldD} (h : sortedH l) {j k : Nat} {x y : HeldD} (hjk : j < k) (e1 : l[j]? = some x) (e2 : l[k]? = some y) : idTx x.t < idTx y.t :=
  sorted_lt h (k - j - 1) j x y e1 (by rw [show j + (k - j - 1) + 1 = k by omega]; exact e2)
theorem place_at {l : List HeldD} (h : sortedH l) {i : Nat} {x : HeldD} (ex : l[i]? = some x) : PlaceOf l (idTx x.t) i := by
  refine ⟨Nat.le_of_lt (List.getElem?_eq_some_iff.1 ex).1, fun k y ey => ?_⟩
  rcases Nat.lt_trichotomy k i with hk | hk | hk
  · have := sorted_lt' h hk ey ex; omega
  · subst hk; rw [ey] at ex; cases ex; omega
  · have := sorted_lt' h hk ex ey; omega
theorem limbo_iff (l : List HeldD) : limboOk l = true ↔ l.length ≤ 48 ∧ sortedH l ∧ ∀ a ∈ l, heldOk a = true := by
  constructor
  · intro h
    obtain ⟨h1, h2, _⟩ := limbo_sorted h
    refine ⟨h1, h2, fun a ha => ?_⟩
    unfold limboOk at h
    simp only [Bool.and_eq_true] at h
    obtain ⟨k, hk⟩ := List.getElem?_of_mem ha
    have := List.all_eq_true.1 h.2 k (List.mem_range.2 (List.getElem?_eq_some_iff.1 hk).1)
    rw [heldAt_get hk, Bool.and_eq_true] at this
    exact this.1
  · rintro ⟨h1, h2, h3⟩
    rw [limbo_yes, decide_eq_true h1]
    intro k hk
    obtain ⟨x, ex⟩ : ∃ x, l[k]? = some x := ⟨_, List.getElem?_eq_getElem hk⟩
    rw [heldAt_get ex, h3 x (List.mem_of_getElem? ex), Bool.true_and]
    cases k with
    | zero => rfl
    | succ k =>
      obtain ⟨y, ey⟩ : ∃ y, l[k]? = some y := ⟨_, List.getElem?_eq_getElem (by omega)⟩
      simp only [heldAfter, ey]
      exact decide_eq_true (h2 k y x ey ex)
theorem erase_get {l : List HeldD} {i k : Nat} {x : HeldD} (e : (l.eraseIdx i)[k]? = some x) : ∃ j, j ≠ i ∧ l[j]? = some x ∧ (k < i → j = k) ∧ (i ≤ k → j = k + 1) := by
  rw [List.getElem?_eraseIdx] at e
  split at e
  · exact ⟨k, by omega, e, fun _ => rfl, fun _ => by omega⟩
  · exact ⟨k + 1, by omega, e, fun _ => by omega, fun _ => rfl⟩
theorem erase_limbo {l : List HeldD} (h : limboOk l = true) (i : Nat) (hi : i < l.length) : limboOk (l.eraseIdx i) = true := by
  rw [limbo_iff] at h ⊢
  obtain ⟨h1, h2, h3⟩ := h
  refine ⟨by rw [List.length_eraseIdx, if_pos hi]; omega, fun k x y e1 e2 => ?_, fun a ha => h3 a (List.mem_of_mem_eraseIdx ha)⟩
  obtain ⟨j, _, ej, q1, q2⟩ := erase_get e1
  obtain ⟨j', _, ej', q1', q2'⟩ := erase_get e2
  refine sorted_lt' h2 ?_ ej ej'
  rcases Nat.lt_or_ge k i with hk | hk
  · rw [q1 hk]
    rcases Nat.lt_or_ge (k + 1) i with hk' | hk'
    · rw [q1' hk']; omega
    · rw [q2' hk']; omega
  · rw [q2 hk, q2' (by omega)]; omega
theorem pull_at {l : List HeldD} (h : limboOk l = true) {i : Nat} {x : HeldD} (ex : l[i]? = some x) : pullOf l (idTx x.t) = (l.eraseIdx i, x, 0) := by
  obtain ⟨_, hs, _⟩ := limbo_sorted h
  unfold pullOf
  rw [place_unique (place_pos l _ hs) (place_at hs ex), ex]
  show (if idTx x.t = idTx x.t then _ else _) = _
  rw [if_pos rfl]
theorem pull_none {l : List HeldD} (h : limboOk l = true) {i : Nat} {x : HeldD} (ex : l[i]? = some x) : pullOf (l.eraseIdx i) (idTx x.t) = ([], zeroH, 3) := by
  obtain ⟨_, hs, _⟩ := limbo_sorted h
  unfold pullOf
  generalize posOf (l.eraseIdx i) (idTx x.t) = p
  cases e : (l.eraseIdx i)[p]? with
  | none => rfl
  | some y =>
    obtain ⟨j, hj, ej, _⟩ := erase_get e
    show (if idTx y.t = idTx x.t then _ else _) = _
    rw [if_neg]
    intro he
    rcases Nat.lt_or_gt_of_ne hj with hk | hk
    · have := sorted_lt' hs hk ej ex; omega
    · have := sorted_lt' hs hk ex ej; omega
theorem c_Without (l : List HeldD) (i : Nat) (hi : i < l.length) (hl : l.length * 208 ≤ reachBytes) (hok : ∀ a ∈ l, a.ok) : Contract Try.prog 60 [limbo l, .int .i64 i] (.own false 22 ((l.eraseIdx i).map HeldD.av)) := by
  have h1 := c_CopyLimbo (l.take i) (by rw [List.length_take]; unfold reachBytes at *; omega) (fun a ha => hok a (List.mem_of_mem_take ha))
  have h2 := c_CopyLimbo (l.drop (i + 1)) (by rw [List.length_drop]; unfold reachBytes at *; omega) (fun a ha => hok a (List.mem_of_mem_drop ha))
  have he : (l.eraseIdx i).map HeldD.av = (l.take i).map HeldD.av ++ (l.drop (i + 1)).map HeldD.av := by rw [List.eraseIdx_eq_take_drop_succ, List.map_append]
  have w1 : IntKind.i64.wrap ((i : Int) + 1) = ((i + 1 : Nat) : Int) := by unfold reachBytes at hl; rw [IntKind.wrap_i64]; omega
  have t1 : (l.map HeldD.av).take i = (l.take i).map HeldD.av := List.map_take.symm
  have t2 : (l.map HeldD.av).drop (i + 1) = (l.drop (i + 1)).map HeldD.av := List.map_drop.symm
  unfold reachBytes at hl
  refine contract_of (C := cf 17 [0, 1, 4, 5] (fun _ => [])) (cf_ok _ _ _) (fn := Try.f60) Try.func60 (by kernel_rfl) rfl (by kernel_rfl) (by simp [cf]) (plain2 (limbo_plain l) (.int _ _)) (by decide) (noCell (by kernel_rfl)) ?_
  simp only [go_sem, seval, limbo, List.length_map, Int.toNat_natCast]
  refine ⟨⟨⟨by omega, by omega⟩, by omega⟩, ?_⟩
  have e0 : (l.map HeldD.av).take (i - 0) = (l.take i).map HeldD.av := by rw [Nat.sub_zero, t1]
  rw [e0]
  refine ex_call (by exact h1) ?_
  simp only [go_sem, seval, w1, List.length_map, Int.toNat_natCast]
  refine ⟨⟨by omega, by omega⟩, ?_⟩
  have e1 : ((l.map HeldD.av).drop (i + 1)).take (l.length - (i + 1)) = (l.drop (i + 1)).map HeldD.av := by
    rw [t2]
    exact List.take_of_length_le (by rw [List.length_map, List.length_drop]; omega)
  rw [e1]
  refine ex_call (by exact h2) ?_
  simp only [go_sem, seval, List.length_map]
  refine ⟨by rw [List.length_take, List.length_drop]; omega, ?_⟩
  rw [he]
  refine finOne ?_ (fun _ e => by cases e)
  show resOf _ _ [.tmp 4] = _
  simp only [go_sem, seval]
theorem held_ok {l : List HeldD} (h : ∀ a ∈ l, a.ok) (i : Nat) : ∀ a ∈ l.eraseIdx i, a.ok := fun a ha => h a (List.mem_of_mem_eraseIdx ha)
theorem zeroH_ok : zeroH.ok := ⟨by constructor <;> first | decide | (intro a ha; cases ha), by decide⟩
end Go.Proofs.Ytpepfhbfooeoeaa.VA
end
