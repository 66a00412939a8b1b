/- Transactions: copies, weights, plain ones. Transactions: comparisons. Rows of transactions. Rows of transactions: copies, comparisons, weights. A transaction's cells. Items as data; copies of items. Items: how much they are, how deep, whether two are alike, copies. The bytes of items: plain laws. Items out of bytes: plain laws. Numbers of 256 bits as bytes. Numbers of 256 bits as bytes: the page's own, and back. The number of bytes. Items: whether two are alike, copies; what is too heavy. Items' bytes: the small functions. Items out of bytes: the head. Items out of bytes: one item, all of them. Where paths come together behind a choice, some of them having returned before. Items out of bytes: the page's own. Items out of bytes: the page's answer at the top. Transactions as items: plain laws. Items' bytes: how long, whether they may be. Functions that hand values to a loop: laws for their walks. Each: a function that hands an item's items to a loop. Items' bytes: the page's own; what is laid. Items' bytes: what is laid. Transactions as bytes. -/
import Derived.Test.YtpepfhbfooeoeaaT1
import Derived.Test.YtpepfhbfooeoeaaT2
import Derived.Test.YtpepfhbfooeoeaaT3
import Derived.Test.YtpepfhbfooeoeaaT4
import Derived.TacticsIn
import Derived.LoopNIn
set_option linter.unusedSimpArgs false
set_option linter.unusedVariables false
section
namespace Go.Proofs.Ytpepfhbfooeoeaa.VA
set_option maxRecDepth 10000
set_option maxHeartbeats 8000000

def TxD.dull (t : TxD) : AV := .agg [.int .i64 t.frm, .int .i64 t.nonce, .int .u64 (lim t.tip 0), .int .u64 (lim t.tip 1), .int .u64 (lim t.tip 2), .int .u64 (lim t.tip 3), .int .u64 (lim t.cap 0), .int .u64 (lim t.cap 1), .int .u64 (lim t.cap 2), .int .u64 (lim t.cap 3), .int .u64 (lim t.bcap 0), .int .u64 (lim t.bcap 1), .int .u64 (lim t.bcap 2), .int .u64 (lim t.bcap 3), .int .u64 (lim t.value 0), .int .u64 (lim t.value 1), .int .u64 (lim t.value 2), .int .u64 (lim t.value 3), .int .i64 t.gas, .sl true 1 (t.hashes.map (AV.int .u64)), .sl true 1 (t.blobs.map AV.str)]
theorem TxD.dull_av (t : TxD) : Dull t.dull t.av := by
  refine dulls_agg ?_
  repeat' (first | exact Dulls.nil | exact Dull.refl _ | exact dsl _ _ _ | refine Dulls.cons ?_ ?_)
theorem c_CopyTx (t : TxD) (h : t.ok) : Contract Try.prog 24 [t.av] t.av := by
  refine contract_of (C := cf 14 [1, 2, 3] (fun _ => [])) (cf_ok _ _ _) (fn := Try.f24) Try.func24 (by kernel_rfl) rfl (by kernel_rfl) (by simp [cf]) (plain1 t.plain) (by decide) (cellsOk (by kernel_rfl)) ?_
  simp only [go_sem, seval, TxD.av, TxD.cells, ints, strs]
  refine ex_call (by exact c_CopyMarks t.hashes h.hashes) ?_
  simp only [go_sem, seval]
  refine ex_call (by exact c_CopyStrings t.blobs h.blobs) ?_
  simp only [go_sem, seval]
  refine finOneD (r' := .agg [.int .i64 t.frm, .int .i64 t.nonce, .int .u64 (lim t.tip 0), .int .u64 (lim t.tip 1), .int .u64 (lim t.tip 2), .int .u64 (lim t.tip 3), .int .u64 (lim t.cap 0), .int .u64 (lim t.cap 1), .int .u64 (lim t.cap 2), .int .u64 (lim t.cap 3), .int .u64 (lim t.bcap 0), .int .u64 (lim t.bcap 1), .int .u64 (lim t.bcap 2), .int .u64 (lim t.bcap 3), .int .u64 (lim t.value 0), .int .u64 (lim t.value 1), .int .u64 (lim t.value 2), .int .u64 (lim t.value 3), .int .i64 t.gas, .sl true 1 (t.hashes.map (AV.int .u64)), .sl true 1 (t.blobs.map AV.str)]) ?_ ?_ (fun _ e => by cases e) (fun _ e => by cases e)
  · show resOf _ _ [.cell 2 29] = _
    simp only [go_sem, seval]
  · refine dulls_agg ?_
    repeat' (first | exact Dulls.nil | exact Dull.refl _ | exact dsl _ _ _ | refine Dulls.cons ?_ ?_)

/-- How much the texts of a transaction weigh. -/
def weigh : Int → List (List UInt8) → Int
  | n, [] => n
  | n, b :: bs => if n < 1048576 then weigh (n + b.length) bs else n
def weightOf (t : TxD) : Int := weigh (1 + t.hashes.length + t.blobs.length) t.blobs
theorem weigh_drop {n : Int} {bs : List (List UInt8)} {i : Nat} {b : List UInt8} (e : bs[i]? = some b) (h : n < 1048576) : weigh n (bs.drop i) = weigh (n + b.length) (bs.drop (i + 1)) := by
  obtain ⟨hi, rfl⟩ := List.getElem?_eq_some_iff.1 e
  rw [← List.getElem_cons_drop hi]
  simp only [weigh, if_pos h]
theorem weigh_end {n : Int} {bs : List (List UInt8)} (h : ¬ n < 1048576) : weigh n bs = n := by
  cases bs with
  | nil => rfl
  | cons b bs => simp only [weigh, if_neg h]
theorem c_TxWeight (t : TxD) (h : t.ok) : Contract Try.prog 65 [t.av] (.int .i64 (weightOf t)) := by
  refine contract_of (C := cf 33 [1, 2, 3, 4, 21] (fun _ => [])) (cf_ok _ _ _) (fn := Try.f65) Try.func65 (by kernel_rfl) rfl (by kernel_rfl) (by simp [cf]) (plain1 t.plain) (by decide) (noCell (by kernel_rfl)) ?_
  have h1 := h.hashes
  have h2 := h.blobs
  unfold reachBytes at h1 h2
  have w1 : IntKind.i64.wrap (1 + (t.hashes.length : Int)) = 1 + (t.hashes.length : Int) := wi64 (by omega) (by omega)
  have w2 : IntKind.i64.wrap (1 + (t.hashes.length : Int) + (t.blobs.length : Int)) = 1 + (t.hashes.length : Int) + t.blobs.length := wi64 (by omega) (by omega)
  simp only [go_sem, seval, TxD.av, TxD.cells, ints, strs, List.length_map, w1, w2]
  refine ex_iter [1, 3, 4] (fun q : Nat × Int => ⟨[(1, .var 1 0), (3, .int .i64 q.2), (4, .int .i64 q.1)], [(1, [.int .i64 t.frm, .int .i64 t.nonce, .int .u64 (lim t.tip 0), .int .u64 (lim t.tip 1), .int .u64 (lim t.tip 2), .int .u64 (lim t.tip 3), .int .u64 (lim t.cap 0), .int .u64 (lim t.cap 1), .int .u64 (lim t.cap 2), .int .u64 (lim t.cap 3), .int .u64 (lim t.bcap 0), .int .u64 (lim t.bcap 1), .int .u64 (lim t.bcap 2), .int .u64 (lim t.bcap 3), .int .u64 (lim t.value 0), .int .u64 (lim t.value 1), .int .u64 (lim t.value 2), .int .u64 (lim t.value 3), .int .i64 t.gas, .sl false 1 (t.hashes.map (AV.int .u64)), .sl false 1 (t.blobs.map AV.str)])], []⟩)
    (fun q => q.1 ≤ t.blobs.length ∧ 0 ≤ q.2 ∧ q.2 ≤ 281474976710656 ∧ weigh q.2 (t.blobs.drop q.1) = weightOf t) (fun q => t.blobs.length - q.1) (0, 1 + (t.hashes.length : Int) + t.blobs.length) ?_ ?_ ?_
  · simp only [ASt.keep, consIf, keepL, keepV, AV.isBot, List.contains_cons, List.contains_nil, Nat.reduceBEq, Bool.or_false, Bool.false_or, Bool.or_true, Bool.true_or, beq_self_eq_true, Bool.false_eq_true, ↓reduceIte, if_false, if_true]
    rfl
  · exact ⟨Nat.zero_le _, by simp only; omega, by simp only; omega, rfl⟩
  · rintro r ⟨i, n⟩ hinv next
    obtain ⟨hi, hn1, hn2, hw⟩ : i ≤ t.blobs.length ∧ 0 ≤ n ∧ n ≤ 281474976710656 ∧ weigh n (t.blobs.drop i) = weightOf t := hinv
    simp only [go_sem, seval, List.length_map]
    refine ex_joinB 21 (decide (i < t.blobs.length) && decide (n < 1048576)) ?_ ?_
    · repeat' (first | (refine ex_split (fun h => ?_) (fun h => ?_)) | (with_reducible refine And.intro (by omega) ?_) |
        (simp only [go_sem, seval, List.length_map]))
      all_goals (try simp only [ASt.mk.injEq, List.cons.injEq, Prod.mk.injEq, AV.bool.injEq, true_and, and_true, eq_self])
      all_goals first | (simp_all; done) | (simp_all; omega) | (rw [Bool.eq_iff_iff]; simp only [List.length_map, Bool.or_eq_true, Bool.and_eq_true, Bool.not_eq_true', Bool.not_eq_false', decide_eq_true_eq, decide_eq_false_iff_not, bne_iff_ne, beq_iff_eq, ne_eq, true_iff, iff_true, false_iff, iff_false, Bool.false_eq_true, not_false_eq_true, not_true_eq_false] at *; omega)
    simp only [go_sem, seval]
    refine ex_br (fun hc => ?_) (fun hc => ?_)
    · have hlt : i < t.blobs.length ∧ n < 1048576 := by simpa using hc
      obtain ⟨b, eb⟩ : ∃ b, t.blobs[i]? = some b := ⟨_, List.getElem?_eq_getElem hlt.1⟩
      have hb := h.blob b (List.mem_of_getElem? eb)
      unfold reachBytes at hb
      have w3 : IntKind.i64.wrap (n + (b.length : Int)) = n + b.length := wi64 (by omega) (by omega)
      simp only [go_sem, seval, List.length_map, List.getElem?_map, eb, Int.toNat_natCast, w3]
      repeat with_reducible refine And.intro (by first | omega | (simp only [List.length_cons, List.length_append, List.length_nil, List.length_map, List.length_take, List.length_drop, List.length_set]; omega)) ?_
      refine next (i + 1, n + b.length) _ ⟨by simp only; omega, by simp only; omega, by simp only; omega, by simp only; rw [← weigh_drop eb hlt.2]; exact hw⟩ (by simp only; omega) ?_
      simp only
      rw [← wi64_nat i (by omega)]
      simp only [ASt.keep, consIf, keepL, keepV, AV.isBot, List.contains_cons, List.contains_nil, Nat.reduceBEq, Bool.or_false, Bool.false_or, Bool.or_true, Bool.true_or, beq_self_eq_true, Bool.false_eq_true, ↓reduceIte, if_false, if_true]
    · have e : weightOf t = n := by
        rw [← hw]
        by_cases h1 : n < 1048576
        · have : i = t.blobs.length := by simp [h1] at hc; omega
          rw [this, List.drop_length]; rfl
        · exact weigh_end h1
      simp only [go_sem, seval, e]
      refine finOne ?_ (fun _ e => by cases e)
      show resOf _ _ [.tmp 2] = _
      simp only [go_sem, seval]

theorem weigh_bounds (bs : List (List UInt8)) (hb : ∀ b ∈ bs, b.length ≤ reachBytes) : ∀ n : Int, 0 ≤ n → n ≤ 281474976710656 → 0 ≤ weigh n bs ∧ weigh n bs ≤ 281474976710656 := by
  induction bs with
  | nil => intro n h1 h2; exact ⟨h1, h2⟩
  | cons b bs ih =>
    intro n h1 h2
    simp only [weigh]
    have := hb b (by simp)
    unfold reachBytes at this
    split
    · exact ih (fun x hx => hb x (List.mem_cons_of_mem _ hx)) _ (by omega) (by omega)
    · exact ⟨h1, h2⟩
theorem weightOf_bounds (t : TxD) (h : t.ok) : 0 ≤ weightOf t ∧ weightOf t ≤ 281474976710656 := by
  have h1 := h.hashes
  have h2 := h.blobs
  unfold reachBytes at h1 h2
  exact weigh_bounds _ h.blob _ (by omega) (by omega)
theorem lims_small (g : Nat) (hg : g < 18446744073709551616) : lim g 0 = g ∧ lim g 1 = 0 ∧ lim g 2 = 0 ∧ lim g 3 = 0 := by
  have h := u_small g hg
  unfold u at h
  injection h with h
  injection h with h0 h
  injection h with h1 h
  injection h with h2 h
  injection h with h3 h
  injection h0 with _ h0
  injection h1 with _ h1
  injection h2 with _ h2
  injection h3 with _ h3
  exact ⟨h0, h1, h2, h3⟩
/-- A plain transaction. -/
def plainTx (f n : Int) (p : Nat) : TxD := ⟨f, n, p, 2 * p, p, 0, 1, [hashOf [98]], [[98]]⟩
theorem c_T (f n : Int) (p : Nat) (hp : 2 * p < 18446744073709551616) : Contract Try.prog 22 [.int .i64 f, .int .i64 n, .int .u64 p] (plainTx f n p).av := by
  refine contract_of (C := cf 20 [0, 1, 2, 6] (fun _ => [])) (cf_ok _ _ _) (fn := Try.f22) Try.func22 (by kernel_rfl) rfl (by kernel_rfl) (by simp [cf]) (plain3 (.int _ _) (.int _ _) (.int _ _)) (by decide) (cellsOk (by kernel_rfl)) ?_
  have w : IntKind.u64.wrap (2 * (p : Int)) = ((2 * p : Nat) : Int) := by rw [wu64 (by omega) (by omega)]; omega
  simp only [go_sem, seval, w]
  refine ex_call (by exact c_ref4_Hash [98] (by decide)) ?_
  simp only [go_sem, seval]
  have l1 := lims_small p (by omega)
  have l2 := lims_small (2 * p) hp
  have l0 := lims_small 0 (by decide)
  have l3 : lim 0 0 = 0 := l0.1
  refine finOneD (r' := .agg [.int .i64 f, .int .i64 n, .int .u64 p, .int .u64 0, .int .u64 0, .int .u64 0, .int .u64 (2 * p : Nat), .int .u64 0, .int .u64 0, .int .u64 0, .int .u64 p, .int .u64 0, .int .u64 0, .int .u64 0, .int .u64 0, .int .u64 0, .int .u64 0, .int .u64 0, .int .i64 1, .sl true 1 [.int .u64 (hashOf [98])], .sl true 1 [.str [98]]]) ?_ ?_ (fun _ e => by cases e) (fun _ e => by cases e)
  · show resOf _ _ [.cell 6 29] = _
    simp only [go_sem, seval]
  · unfold TxD.av TxD.cells plainTx
    simp only [l1, l2, l0, l3, ints, strs, List.map_cons, List.map_nil]
    refine dulls_agg ?_
    repeat' (first | exact Dulls.nil | exact Dull.refl _ | exact dsl _ _ _ | refine Dulls.cons ?_ ?_)
theorem plain_ok (f n : Int) (p : Nat) (hf : -9223372036854775808 ≤ f ∧ f ≤ 9223372036854775807) (hn : -9223372036854775808 ≤ n ∧ n ≤ 9223372036854775807) (hp : 2 * p < 18446744073709551616) : (plainTx f n p).ok :=
  ⟨hf, hn, by simp only [plainTx]; omega, by simp only [plainTx, U]; omega, by simp only [plainTx, U]; omega, by simp only [plainTx, U]; omega, by simp only [plainTx, U]; omega, by simp only [plainTx, reachBytes]; decide, by simp only [plainTx, reachBytes]; decide, fun b hb => by
    simp only [plainTx, List.mem_singleton] at hb
    subst hb; unfold reachBytes; decide⟩
end Go.Proofs.Ytpepfhbfooeoeaa.VA
end
section
namespace Go.Proofs.Ytpepfhbfooeoeaa.VA
set_option maxRecDepth 10000
set_option maxHeartbeats 8000000

theorem take_eq_succ {α : Type} {a b : List α} {i : Nat} {x : α} (h : a.take i = b.take i) (ha : a[i]? = some x) (hb : b[i]? = some x) : a.take (i + 1) = b.take (i + 1) := by
  rw [List.take_add_one, List.take_add_one, h, ha, hb]
theorem eq_of_takes {α : Type} {a b : List α} (hl : a.length = b.length) {i : Nat} (hi : i = a.length) (h : a.take i = b.take i) : a = b := by
  subst hi
  rw [List.take_length, hl, List.take_length] at h
  exact h
theorem ne_of_get {α : Type} {a b : List α} {i : Nat} {x y : α} (ha : a[i]? = some x) (hb : b[i]? = some y) (h : x ≠ y) : a ≠ b := by
  rintro rfl
  rw [ha] at hb
  cases hb
  exact h rfl

theorem c_EqMarks (a b : List Int) (ha : a.length * 8 ≤ reachBytes) (hb : b.length * 8 ≤ reachBytes) : Contract Try.prog 75 [ints .u64 a, ints .u64 b] (.bool (decide (a = b))) := by
  unfold reachBytes at ha hb
  refine contract_of (C := cf 26 [0, 1, 4, 5, 10, 14, 25] (fun _ => [])) (cf_ok _ _ _) (fn := Try.f75) Try.func75 (by kernel_rfl) rfl (by kernel_rfl) (by simp [cf]) (plain2 (ints_plain _ a) (ints_plain _ b)) (by decide) (noCell (by kernel_rfl)) ?_
  simp only [go_sem, seval, ints, List.length_map]
  refine ex_br (fun h => ?_) (fun h => ?_)
  · have hne : a ≠ b := by
      rintro rfl
      simp at h
    rw [decide_eq_false hne]
    simp only [go_sem, seval]
    refine finOne ?_ (fun _ e => by cases e)
    show resOf _ _ [.tmp 4] = _
    simp only [go_sem, seval]
  · have hl : a.length = b.length := by simp at h; omega
    simp only [go_sem, seval]
    refine ex_iter [0, 1, 5] (fun i : Nat => ⟨[(0, .sl false 1 (a.map (AV.int .u64))), (1, .sl false 1 (b.map (AV.int .u64))), (5, .int .i64 i)], [], []⟩) (fun i => i ≤ a.length ∧ a.take i = b.take i) (fun i => a.length - i) 0 ?_ ?_ ?_
    · simp only [ASt.keep, consIf, keepL, keepV, AV.isBot, List.contains_cons, List.contains_nil, Nat.reduceBEq, Bool.or_false, Bool.false_or, Bool.or_true, Bool.true_or, beq_self_eq_true, Bool.false_eq_true, ↓reduceIte, if_false, if_true]
      rfl
    · exact ⟨Nat.zero_le _, by simp⟩
    · rintro n i ⟨hi, ht⟩ next
      simp only [go_sem, seval, List.length_map]
      refine ex_br (fun h => ?_) (fun h => ?_)
      · have hlt : i < a.length := by simpa using h
        obtain ⟨x, ex⟩ : ∃ x, a[i]? = some x := ⟨_, List.getElem?_eq_getElem hlt⟩
        obtain ⟨y, ey⟩ : ∃ y, b[i]? = some y := ⟨_, List.getElem?_eq_getElem (by omega)⟩
        simp only [go_sem, seval]
        refine ex_draw [] [] (.quiet 0 (.quiet 1 (.quiet 2 (.quiet 3 (.quiet 4 (.quiet 5 (.quiet 6 (.quiet 7 (.quiet 8 (.fin)))))))))) (by kernel_rfl) ?_
        simp only [go_sem, seval, List.length_map, List.getElem?_map, ex, ey, Int.toNat_natCast]
        repeat with_reducible refine And.intro (by first | omega | (simp only [List.length_cons, List.length_append, List.length_nil, List.length_map, List.length_take, List.length_drop, List.length_set]; omega)) ?_
        refine ex_br (fun hne => ?_) (fun hne => ?_)
        · rw [decide_eq_false (ne_of_get ex ey (by simpa using hne))]
          simp only [go_sem, seval]
          refine finOne ?_ (fun _ e => by cases e)
          show resOf _ _ [.tmp 4] = _
          simp only [go_sem, seval]
        · have hxy : x = y := by simpa using hne
          subst hxy
          simp only [go_sem, seval]
          refine next (i + 1) _ ⟨by omega, take_eq_succ ht ex ey⟩ (by omega) ?_
          rw [← wi64_nat i (by omega)]
          simp only [ASt.keep, consIf, keepL, keepV, AV.isBot, List.contains_cons, List.contains_nil, Nat.reduceBEq, Bool.or_false, Bool.false_or, Bool.or_true, Bool.true_or, beq_self_eq_true, Bool.false_eq_true, ↓reduceIte, if_false, if_true]
      · have hge : i = a.length := by simp at h; omega
        rw [decide_eq_true (eq_of_takes hl hge ht)]
        simp only [go_sem, seval]
        refine finOne ?_ (fun _ e => by cases e)
        show resOf _ _ [.tmp 4] = _
        simp only [go_sem, seval]
theorem c_EqStrings (a b : List (List UInt8)) (ha : a.length * 16 ≤ reachBytes) (hb : b.length * 16 ≤ reachBytes) : Contract Try.prog 76 [strs a, strs b] (.bool (decide (a = b))) := by
  unfold reachBytes at ha hb
  refine contract_of (C := cf 26 [0, 1, 4, 5, 10, 14, 25] (fun _ => [])) (cf_ok _ _ _) (fn := Try.f76) Try.func76 (by kernel_rfl) rfl (by kernel_rfl) (by simp [cf]) (plain2 (strs_plain a) (strs_plain b)) (by decide) (noCell (by kernel_rfl)) ?_
  simp only [go_sem, seval, strs, List.length_map]
  refine ex_br (fun h => ?_) (fun h => ?_)
  · have hne : a ≠ b := by
      rintro rfl
      simp at h
    rw [decide_eq_false hne]
    simp only [go_sem, seval]
    refine finOne ?_ (fun _ e => by cases e)
    show resOf _ _ [.tmp 4] = _
    simp only [go_sem, seval]
  · have hl : a.length = b.length := by simp at h; omega
    simp only [go_sem, seval]
    refine ex_iter [0, 1, 5] (fun i : Nat => ⟨[(0, .sl false 1 (a.map AV.str)), (1, .sl false 1 (b.map AV.str)), (5, .int .i64 i)], [], []⟩) (fun i => i ≤ a.length ∧ a.take i = b.take i) (fun i => a.length - i) 0 ?_ ?_ ?_
    · simp only [ASt.keep, consIf, keepL, keepV, AV.isBot, List.contains_cons, List.contains_nil, Nat.reduceBEq, Bool.or_false, Bool.false_or, Bool.or_true, Bool.true_or, beq_self_eq_true, Bool.false_eq_true, ↓reduceIte, if_false, if_true]
      rfl
    · exact ⟨Nat.zero_le _, by simp⟩
    · rintro n i ⟨hi, ht⟩ next
      simp only [go_sem, seval, List.length_map]
      refine ex_br (fun h => ?_) (fun h => ?_)
      · have hlt : i < a.length := by simpa using h
        obtain ⟨x, ex⟩ : ∃ x, a[i]? = some x := ⟨_, List.getElem?_eq_getElem hlt⟩
        obtain ⟨y, ey⟩ : ∃ y, b[i]? = some y := ⟨_, List.getElem?_eq_getElem (by omega)⟩
        simp only [go_sem, seval]
        refine ex_draw [] [] (.quiet 0 (.quiet 1 (.quiet 2 (.quiet 3 (.quiet 4 (.quiet 5 (.quiet 6 (.quiet 7 (.quiet 8 (.fin)))))))))) (by kernel_rfl) ?_
        simp only [go_sem, seval, List.length_map, List.getElem?_map, ex, ey, Int.toNat_natCast]
        repeat with_reducible refine And.intro (by first | omega | (simp only [List.length_cons, List.length_append, List.length_nil, List.length_map, List.length_take, List.length_drop, List.length_set]; omega)) ?_
        refine ex_br (fun hne => ?_) (fun hne => ?_)
        · rw [decide_eq_false (ne_of_get ex ey (by simpa using hne))]
          simp only [go_sem, seval]
          refine finOne ?_ (fun _ e => by cases e)
          show resOf _ _ [.tmp 4] = _
          simp only [go_sem, seval]
        · have hxy : x = y := by simpa using hne
          subst hxy
          simp only [go_sem, seval]
          refine next (i + 1) _ ⟨by omega, take_eq_succ ht ex ey⟩ (by omega) ?_
          rw [← wi64_nat i (by omega)]
          simp only [ASt.keep, consIf, keepL, keepV, AV.isBot, List.contains_cons, List.contains_nil, Nat.reduceBEq, Bool.or_false, Bool.false_or, Bool.or_true, Bool.true_or, beq_self_eq_true, Bool.false_eq_true, ↓reduceIte, if_false, if_true]
      · have hge : i = a.length := by simp at h; omega
        rw [decide_eq_true (eq_of_takes hl hge ht)]
        simp only [go_sem, seval]
        refine finOne ?_ (fun _ e => by cases e)
        show resOf _ _ [.tmp 4] = _
        simp only [go_sem, seval]

/-! Two transactions. -/
def eqTx (a b : TxD) : Bool := (a.frm == b.frm) && ((a.nonce == b.nonce) && (decide (a.tip = b.tip) && (decide (a.cap = b.cap) && (decide (a.bcap = b.bcap) && (decide (a.value = b.value) && ((a.gas == b.gas) && (decide (a.hashes = b.hashes) && decide (a.blobs = b.blobs))))))))
theorem eqTx_iff (a b : TxD) : eqTx a b = true ↔ a = b := by
  cases a; cases b
  simp only [eqTx, Bool.and_eq_true, beq_iff_eq, decide_eq_true_eq, TxD.mk.injEq]
instance : DecidableEq TxD := fun a b => decidable_of_iff (eqTx a b = true) (eqTx_iff a b)
theorem eqTx_dec (a b : TxD) : eqTx a b = decide (a = b) := by
  rw [Bool.eq_iff_iff, eqTx_iff]; simp
theorem u_inj {n m : Nat} (hn : n < U) (hm : m < U) (h : u n = u m) : n = m := by
  obtain ⟨a, b, c, d, h0, h1, h2, h3, rfl⟩ := u_limbs n hn
  obtain ⟨a', b', c', d', k0, k1, k2, k3, rfl⟩ := u_limbs m hm
  rw [u_eq h0 h1 h2 h3 rfl, u_eq k0 k1 k2 k3 rfl] at h
  injection h with h
  simp only [List.cons.injEq, AV.int.injEq, true_and, and_true] at h
  omega
theorem eqU (n m : Nat) (hn : n < U) (hm : m < U) : ((lim n 0 == lim m 0) && ((lim n 1 == lim m 1) && ((lim n 2 == lim m 2) && (lim n 3 == lim m 3)))) = decide (n = m) := by
  rw [Bool.eq_iff_iff]
  simp only [Bool.and_eq_true, beq_iff_eq, decide_eq_true_eq]
  constructor
  · rintro ⟨e0, e1, e2, e3⟩
    refine u_inj hn hm ?_
    unfold u
    rw [e0, e1, e2, e3]
  · rintro rfl
    exact ⟨rfl, rfl, rfl, rfl⟩
theorem c_EqTx (a b : TxD) (ha : a.ok) (hb : b.ok) : Contract Try.prog 21 [a.av, b.av] (.bool (decide (a = b))) := by
  rw [← eqTx_dec]
  have e1 := eqU a.tip b.tip ha.tip hb.tip
  have e2 := eqU a.cap b.cap ha.cap hb.cap
  have e3 := eqU a.bcap b.bcap ha.bcap hb.bcap
  have e4 := eqU a.value b.value ha.value hb.value
  refine contract_of (C := cf 66 [2, 3, 4] (fun _ => [])) (cf_ok _ _ _) (fn := Try.f21) Try.func21 (by kernel_rfl) rfl (by kernel_rfl) (by simp [cf]) (plain2 a.plain b.plain) (by decide) (noCell (by kernel_rfl)) ?_
  simp only [go_sem, seval, TxD.av, TxD.cells, ints, strs]
  cases h1 : (a.frm == b.frm)
  · have e : eqTx a b = false := by unfold eqTx; rw [h1]; rfl
    simp only [go_sem, seval, e]
    refine finOne ?_ (fun _ e => by cases e)
    show resOf _ _ [.tmp 4] = _
    simp only [go_sem, seval]
  simp only [go_sem, seval]
  cases h2 : (a.nonce == b.nonce)
  · have e : eqTx a b = false := by unfold eqTx; rw [h1, h2]; rfl
    simp only [go_sem, seval, e]
    refine finOne ?_ (fun _ e => by cases e)
    show resOf _ _ [.tmp 4] = _
    simp only [go_sem, seval]
  simp only [go_sem, seval, e1]
  cases h3 : decide (a.tip = b.tip)
  · have e : eqTx a b = false := by unfold eqTx; rw [h1, h2, h3]; rfl
    simp only [go_sem, seval, e]
    refine finOne ?_ (fun _ e => by cases e)
    show resOf _ _ [.tmp 4] = _
    simp only [go_sem, seval]
  simp only [go_sem, seval, e2]
  cases h4 : decide (a.cap = b.cap)
  · have e : eqTx a b = false := by unfold eqTx; rw [h1, h2, h3, h4]; rfl
    simp only [go_sem, seval, e]
    refine finOne ?_ (fun _ e => by cases e)
    show resOf _ _ [.tmp 4] = _
    simp only [go_sem, seval]
  simp only [go_sem, seval, e3]
  cases h5 : decide (a.bcap = b.bcap)
  · have e : eqTx a b = false := by unfold eqTx; rw [h1, h2, h3, h4, h5]; rfl
    simp only [go_sem, seval, e]
    refine finOne ?_ (fun _ e => by cases e)
    show resOf _ _ [.tmp 4] = _
    simp only [go_sem, seval]
  simp only [go_sem, seval, e4]
  cases h6 : decide (a.value = b.value)
  · have e : eqTx a b = false := by unfold eqTx; rw [h1, h2, h3, h4, h5, h6]; rfl
    simp only [go_sem, seval, e]
    refine finOne ?_ (fun _ e => by cases e)
    show resOf _ _ [.tmp 4] = _
    simp only [go_sem, seval]
  simp only [go_sem, seval]
  cases h7 : (a.gas == b.gas)
  · have e : eqTx a b = false := by unfold eqTx; rw [h1, h2, h3, h4, h5, h6, h7]; rfl
    simp only [go_sem, seval, e]
    refine finOne ?_ (fun _ e => by cases e)
    show resOf _ _ [.tmp 4] = _
    simp only [go_sem, seval]
  simp only [go_sem, seval]
  refine ex_call (by exact c_EqMarks a.hashes b.hashes ha.hashes hb.hashes) ?_
  cases h8 : decide (a.hashes = b.hashes)
  · have e : eqTx a b = false := by unfold eqTx; rw [h1, h2, h3, h4, h5, h6, h7, h8]; rfl
    simp only [go_sem, seval, e]
    refine finOne ?_ (fun _ e => by cases e)
    show resOf _ _ [.tmp 4] = _
    simp only [go_sem, seval]
  simp only [go_sem, seval]
  refine ex_call (by exact c_EqStrings a.blobs b.blobs ha.blobs hb.blobs) ?_
  have e : eqTx a b = decide (a.blobs = b.blobs) := by unfold eqTx; rw [h1, h2, h3, h4, h5, h6, h7, h8]; rfl
  simp only [go_sem, seval, e]
  refine finOne ?_ (fun _ e => by cases e)
  show resOf _ _ [.tmp 4] = _
  simp only [go_sem, seval]
end Go.Proofs.Ytpepfhbfooeoeaa.VA
end
section
namespace Go.Proofs.Ytpepfhbfooeoeaa.VA
set_option maxRecDepth 10000

def txs (l : List TxD) : AV := .sl false 21 (l.map TxD.av)
theorem txs_plain (l : List TxD) : Plain (txs l) := plain_txs l
end Go.Proofs.Ytpepfhbfooeoeaa.VA
end
section
namespace Go.Proofs.Ytpepfhbfooeoeaa.VA
set_option maxRecDepth 10000
set_option maxHeartbeats 8000000

theorem cells_len (t : TxD) : t.cells.length = 21 := rfl
theorem c_CopyTxs (l : List TxD) (hl : l.length * 200 ≤ reachBytes) (hok : ∀ a ∈ l, a.ok) : Contract Try.prog 28 [txs l] (.own false 21 (l.map TxD.av)) := by
  unfold reachBytes at hl
  refine contract_of (C := cf 20 [0, 2, 3, 4, 8] (fun _ => [])) (cf_ok _ _ _) (fn := Try.f28) Try.func28 (by kernel_rfl) rfl (by kernel_rfl) (by simp [cf]) (plain1 (txs_plain l)) (by decide) (noCell (by kernel_rfl)) ?_
  simp only [go_sem, seval, txs]
  refine ex_iter [0, 3, 4] (fun i : Nat => ⟨[(0, .sl false 21 (l.map TxD.av)), (3, .own false 21 ((l.take i).map TxD.av)), (4, .int .i64 i)], [], []⟩) (fun i => i ≤ l.length) (fun i => l.length - i) 0 ?_ ?_ ?_
  · simp only [ASt.keep, consIf, keepL, keepV, AV.isBot, List.contains_cons, List.contains_nil, Nat.reduceBEq, Bool.or_false, Bool.false_or, Bool.or_true, Bool.true_or, beq_self_eq_true, Bool.false_eq_true, ↓reduceIte, if_false, if_true]
    rfl
  · exact Nat.zero_le _
  · intro n i hi next
    simp only [go_sem, seval, List.length_map]
    refine ex_br (fun h => ?_) (fun h => ?_)
    · have hlt : i < l.length := by simpa using h
      obtain ⟨x, ex⟩ : ∃ x, l[i]? = some x := ⟨_, List.getElem?_eq_getElem hlt⟩
      have hs : (l.take i).map TxD.av ++ [.agg x.cells] = (l.take (i + 1)).map TxD.av := take_snoc TxD.av ex
      simp only [go_sem, seval, List.length_map, List.getElem?_map, ex, Int.toNat_natCast, TxD.av]
      repeat with_reducible refine And.intro (by first | omega | (simp only [List.length_cons, List.length_append, List.length_nil, List.length_map, List.length_take, List.length_drop, List.length_set]; omega)) ?_
      refine ex_call (by exact c_CopyTx x (hok x (List.mem_of_getElem? ex))) ?_
      simp only [go_sem, seval, List.length_map, TxD.av, cells_len]
      repeat with_reducible refine And.intro (by first | omega | (simp only [List.length_cons, List.length_append, List.length_nil, List.length_map, List.length_take, List.length_drop, List.length_set]; omega)) ?_
      refine next (i + 1) _ (by omega) (by omega) ?_
      rw [← wi64_nat i (by omega), ← hs]
      simp only [ASt.keep, consIf, keepL, keepV, AV.isBot, List.contains_cons, List.contains_nil, Nat.reduceBEq, Bool.or_false, Bool.false_or, Bool.or_true, Bool.true_or, beq_self_eq_true, Bool.false_eq_true, ↓reduceIte, if_false, if_true]
    · have hge : i = l.length := by simp at h; omega
      subst hge
      simp only [go_sem, seval, List.take_length]
      refine finOne ?_ (fun _ e => by cases e)
      show resOf _ _ [.tmp 2] = _
      simp only [go_sem, seval]
theorem c_EqTxs (a b : List TxD) (ha : a.length * 200 ≤ reachBytes) (hb : b.length * 200 ≤ reachBytes) (hao : ∀ t ∈ a, t.ok) (hbo : ∀ t ∈ b, t.ok) : Contract Try.prog 35 [txs a, txs b] (.bool (decide (a = b))) := by
  unfold reachBytes at ha hb
  refine contract_of (C := cf 27 [0, 1, 4, 5, 10, 14, 26] (fun _ => [])) (cf_ok _ _ _) (fn := Try.f35) Try.func35 (by kernel_rfl) rfl (by kernel_rfl) (by simp [cf]) (plain2 (txs_plain a) (txs_plain b)) (by decide) (noCell (by kernel_rfl)) ?_
  simp only [go_sem, seval, txs, List.length_map]
  refine ex_br (fun h => ?_) (fun h => ?_)
  · have hne : a ≠ b := by
      rintro rfl
      simp at h
    rw [decide_eq_false hne]
    simp only [go_sem, seval]
    refine finOne ?_ (fun _ e => by cases e)
    show resOf _ _ [.tmp 4] = _
    simp only [go_sem, seval]
  · have hl : a.length = b.length := by simp at h; omega
    simp only [go_sem, seval]
    refine ex_iter [0, 1, 5] (fun i : Nat => ⟨[(0, .sl false 21 (a.map TxD.av)), (1, .sl false 21 (b.map TxD.av)), (5, .int .i64 i)], [], []⟩) (fun i => i ≤ a.length ∧ a.take i = b.take i) (fun i => a.length - i) 0 ?_ ?_ ?_
    · simp only [ASt.keep, consIf, keepL, keepV, AV.isBot, List.contains_cons, List.contains_nil, Nat.reduceBEq, Bool.or_false, Bool.false_or, Bool.or_true, Bool.true_or, beq_self_eq_true, Bool.false_eq_true, ↓reduceIte, if_false, if_true]
      rfl
    · exact ⟨Nat.zero_le _, by simp⟩
    · rintro n i ⟨hi, ht⟩ next
      simp only [go_sem, seval, List.length_map]
      refine ex_br (fun h => ?_) (fun h => ?_)
      · have hlt : i < a.length := by simpa using h
        obtain ⟨x, ex⟩ : ∃ x, a[i]? = some x := ⟨_, List.getElem?_eq_getElem hlt⟩
        obtain ⟨y, ey⟩ : ∃ y, b[i]? = some y := ⟨_, List.getElem?_eq_getElem (by omega)⟩
        simp only [go_sem, seval]
        refine ex_draw [] [] (.quiet 0 (.quiet 1 (.quiet 2 (.quiet 3 (.quiet 4 (.quiet 5 (.quiet 6 (.quiet 7 (.one 8 (.quiet 9 (.fin))))))))))) (by kernel_rfl) ?_
        simp only [go_sem, seval, List.length_map, List.getElem?_map, ex, ey, Int.toNat_natCast, TxD.av]
        repeat with_reducible refine And.intro (by first | omega | (simp only [List.length_cons, List.length_append, List.length_nil, List.length_map, List.length_take, List.length_drop, List.length_set]; omega)) ?_
        refine ex_call (by exact c_EqTx x y (hao x (List.mem_of_getElem? ex)) (hbo y (List.mem_of_getElem? ey))) ?_
        cases hxy : decide (x = y)
        · rw [decide_eq_false (ne_of_get ex ey (of_decide_eq_false hxy))]
          simp only [go_sem, seval]
          refine finOne ?_ (fun _ e => by cases e)
          show resOf _ _ [.tmp 4] = _
          simp only [go_sem, seval]
        · have hxy := of_decide_eq_true hxy
          subst hxy
          simp only [go_sem, seval]
          refine next (i + 1) _ ⟨by omega, take_eq_succ ht ex ey⟩ (by omega) ?_
          rw [← wi64_nat i (by omega)]
          simp only [ASt.keep, consIf, keepL, keepV, AV.isBot, List.contains_cons, List.contains_nil, Nat.reduceBEq, Bool.or_false, Bool.false_or, Bool.or_true, Bool.true_or, beq_self_eq_true, Bool.false_eq_true, ↓reduceIte, if_false, if_true]
      · have hge : i = a.length := by simp at h; omega
        rw [decide_eq_true (eq_of_takes hl hge ht)]
        simp only [go_sem, seval]
        refine finOne ?_ (fun _ e => by cases e)
        show resOf _ _ [.tmp 4] = _
        simp only [go_sem, seval]
theorem all_take_succ {α : Type} {p : α → Bool} {l : List α} {i : Nat} {x : α} (h : (l.take i).all p = true) (ex : l[i]? = some x) (hx : p x = true) : (l.take (i + 1)).all p = true := by
  rw [List.take_add_one, ex, List.all_append, h]
  simp [hx]
theorem all_false_of {α : Type} {p : α → Bool} {l : List α} {i : Nat} {x : α} (ex : l[i]? = some x) (hx : p x = false) : l.all p = false := by
  rw [Bool.eq_false_iff]
  intro e
  have := List.all_eq_true.1 e x (List.mem_of_getElem? ex)
  rw [hx] at this
  cases this
theorem c_ref7_Txs (l : List TxD) (hl : l.length * 200 ≤ reachBytes) (hok : ∀ a ∈ l, a.ok) : Contract Try.prog 81 [txs l] (.bool (l.all validTx)) := by
  unfold reachBytes at hl
  refine contract_of (C := cf 16 [0, 2, 3, 7, 15] (fun _ => [])) (cf_ok _ _ _) (fn := Try.f81) Try.func81 (by kernel_rfl) rfl (by kernel_rfl) (by simp [cf]) (plain1 (txs_plain l)) (by decide) (noCell (by kernel_rfl)) ?_
  simp only [go_sem, seval, txs]
  refine ex_iter [0, 3] (fun i : Nat => ⟨[(0, .sl false 21 (l.map TxD.av)), (3, .int .i64 i)], [], []⟩) (fun i => i ≤ l.length ∧ (l.take i).all validTx = true) (fun i => l.length - i) 0 ?_ ?_ ?_
  · simp only [ASt.keep, consIf, keepL, keepV, AV.isBot, List.contains_cons, List.contains_nil, Nat.reduceBEq, Bool.or_false, Bool.false_or, Bool.or_true, Bool.true_or, beq_self_eq_true, Bool.false_eq_true, ↓reduceIte, if_false, if_true]
    rfl
  · exact ⟨Nat.zero_le _, by simp⟩
  · rintro n i ⟨hi, hall⟩ next
    simp only [go_sem, seval, List.length_map]
    refine ex_br (fun h => ?_) (fun h => ?_)
    · have hlt : i < l.length := by simpa using h
      obtain ⟨x, ex⟩ : ∃ x, l[i]? = some x := ⟨_, List.getElem?_eq_getElem hlt⟩
      simp only [go_sem, seval, List.length_map, List.getElem?_map, ex, Int.toNat_natCast, TxD.av]
      repeat with_reducible refine And.intro (by first | omega | (simp only [List.length_cons, List.length_append, List.length_nil, List.length_map, List.length_take, List.length_drop, List.length_set]; omega)) ?_
      refine ex_call (by exact c_ref7_Tx x (hok x (List.mem_of_getElem? ex))) ?_
      cases hv : validTx x
      · rw [all_false_of ex hv]
        simp only [go_sem, seval]
        refine finOne ?_ (fun _ e => by cases e)
        show resOf _ _ [.tmp 2] = _
        simp only [go_sem, seval]
      · simp only [go_sem, seval]
        refine next (i + 1) _ ⟨by omega, all_take_succ hall ex hv⟩ (by omega) ?_
        rw [← wi64_nat i (by omega)]
        simp only [ASt.keep, consIf, keepL, keepV, AV.isBot, List.contains_cons, List.contains_nil, Nat.reduceBEq, Bool.or_false, Bool.false_or, Bool.or_true, Bool.true_or, beq_self_eq_true, Bool.false_eq_true, ↓reduceIte, if_false, if_true]
    · have hge : i = l.length := by simp at h; omega
      subst hge
      rw [List.take_length] at hall
      rw [hall]
      simp only [go_sem, seval]
      refine finOne ?_ (fun _ e => by cases e)
      show resOf _ _ [.tmp 2] = _
      simp only [go_sem, seval]

def weighs : Int → List TxD → Int
  | n, [] => n
  | n, t :: ts => if n < 1048576 then weighs (n + weightOf t) ts else n
theorem weighs_drop {n : Int} {l : List TxD} {i : Nat} {t : TxD} (e : l[i]? = some t) (h : n < 1048576) : weighs n (l.drop i) = weighs (n + weightOf t) (l.drop (i + 1)) := by
  obtain ⟨hi, rfl⟩ := List.getElem?_eq_some_iff.1 e
  rw [← List.getElem_cons_drop hi]
  simp only [weighs, if_pos h]
theorem weighs_end {n : Int} {l : List TxD} (h : ¬ n < 1048576) : weighs n l = n := by
  cases l with
  | nil => rfl
  | cons b bs => simp only [weighs, if_neg h]
theorem c_TxsWeight (l : List TxD) (hl : l.length * 200 ≤ reachBytes) (hok : ∀ a ∈ l, a.ok) : Contract Try.prog 80 [txs l] (.int .i64 (weighs l.length l)) := by
  unfold reachBytes at hl
  refine contract_of (C := cf 25 [0, 2, 3, 4, 14] (fun _ => [])) (cf_ok _ _ _) (fn := Try.f80) Try.func80 (by kernel_rfl) rfl (by kernel_rfl) (by simp [cf]) (plain1 (txs_plain l)) (by decide) (noCell (by kernel_rfl)) ?_
  simp only [go_sem, seval, txs, List.length_map]
  refine ex_iter [0, 3, 4] (fun q : Nat × Int => ⟨[(0, .sl false 21 (l.map TxD.av)), (3, .int .i64 q.2), (4, .int .i64 q.1)], [], []⟩)
    (fun q => q.1 ≤ l.length ∧ 0 ≤ q.2 ∧ q.2 ≤ 1281474976710656 ∧ weighs q.2 (l.drop q.1) = weighs l.length l) (fun q => l.length - q.1) (0, (l.length : Int)) ?_ ?_ ?_
  · simp only [ASt.keep, consIf, keepL, keepV, AV.isBot, List.contains_cons, List.contains_nil, Nat.reduceBEq, Bool.or_false, Bool.false_or, Bool.or_true, Bool.true_or, beq_self_eq_true, Bool.false_eq_true, ↓reduceIte, if_false, if_true]
    rfl
  · exact ⟨Nat.zero_le _, by simp only; omega, by simp only; omega, rfl⟩
  · rintro r ⟨i, n⟩ hinv next
    obtain ⟨hi, hn1, hn2, hw⟩ : i ≤ l.length ∧ 0 ≤ n ∧ n ≤ 1281474976710656 ∧ weighs n (l.drop i) = weighs l.length l := hinv
    simp only [go_sem, seval, List.length_map]
    refine ex_joinB 14 (decide (i < l.length) && decide (n < 1048576)) ?_ ?_
    · repeat' (first | (refine ex_split (fun h => ?_) (fun h => ?_)) | (with_reducible refine And.intro (by omega) ?_) |
        (simp only [go_sem, seval, List.length_map]))
      all_goals (try simp only [ASt.mk.injEq, List.cons.injEq, Prod.mk.injEq, AV.bool.injEq, true_and, and_true, eq_self])
      all_goals first | (simp_all; done) | (simp_all; omega) | (rw [Bool.eq_iff_iff]; simp only [List.length_map, Bool.or_eq_true, Bool.and_eq_true, Bool.not_eq_true', Bool.not_eq_false', decide_eq_true_eq, decide_eq_false_iff_not, bne_iff_ne, beq_iff_eq, ne_eq, true_iff, iff_true, false_iff, iff_false, Bool.false_eq_true, not_false_eq_true, not_true_eq_false] at *; omega)
    simp only [go_sem, seval]
    refine ex_br (fun hc => ?_) (fun hc => ?_)
    · have hlt : i < l.length ∧ n < 1048576 := by simpa using hc
      obtain ⟨b, eb⟩ : ∃ b, l[i]? = some b := ⟨_, List.getElem?_eq_getElem hlt.1⟩
      have hbok := hok b (List.mem_of_getElem? eb)
      have hb := weightOf_bounds b hbok
      have w3 : IntKind.i64.wrap (n + weightOf b) = n + weightOf b := wi64 (by omega) (by omega)
      simp only [go_sem, seval, List.length_map, List.getElem?_map, eb, Int.toNat_natCast, TxD.av]
      repeat with_reducible refine And.intro (by first | omega | (simp only [List.length_cons, List.length_append, List.length_nil, List.length_map, List.length_take, List.length_drop, List.length_set]; omega)) ?_
      refine ex_call (by exact c_TxWeight b hbok) ?_
      simp only [go_sem, seval, w3]
      refine next (i + 1, n + weightOf b) _ ⟨by simp only; omega, by simp only; omega, by simp only; omega, by simp only; rw [← weighs_drop eb hlt.2]; exact hw⟩ (by simp only; omega) ?_
      simp only
      rw [← wi64_nat i (by omega)]
      simp only [ASt.keep, consIf, keepL, keepV, AV.isBot, List.contains_cons, List.contains_nil, Nat.reduceBEq, Bool.or_false, Bool.false_or, Bool.or_true, Bool.true_or, beq_self_eq_true, Bool.false_eq_true, ↓reduceIte, if_false, if_true]
    · have e : weighs l.length l = n := by
        rw [← hw]
        rcases Nat.lt_or_ge i l.length with h1 | h1
        · refine weighs_end ?_
          simp at hc
          have := hc (by omega)
          omega
        · rw [List.drop_eq_nil_of_le (by omega)]; rfl
      rw [e]
      simp only [go_sem, seval]
      refine finOne ?_ (fun _ e => by cases e)
      show resOf _ _ [.tmp 2] = _
      simp only [go_sem, seval]
end Go.Proofs.Ytpepfhbfooeoeaa.VA
end
section
namespace Go.Proofs.Ytpepfhbfooeoeaa.VA
set_option maxRecDepth 10000
set_option maxHeartbeats 16000000

abbrev txE (a : TxD) : AV := .agg [.int .i64 a.frm, .int .i64 a.nonce, .int .u64 (lim a.tip 0), .int .u64 (lim a.tip 1), .int .u64 (lim a.tip 2), .int .u64 (lim a.tip 3), .int .u64 (lim a.cap 0), .int .u64 (lim a.cap 1), .int .u64 (lim a.cap 2), .int .u64 (lim a.cap 3), .int .u64 (lim a.bcap 0), .int .u64 (lim a.bcap 1), .int .u64 (lim a.bcap 2), .int .u64 (lim a.bcap 3), .int .u64 (lim a.value 0), .int .u64 (lim a.value 1), .int .u64 (lim a.value 2), .int .u64 (lim a.value 3), .int .i64 a.gas, .sl false 1 (a.hashes.map (AV.int .u64)), .sl false 1 (a.blobs.map AV.str)]
theorem r_Copy (t : TxD) (h : t.ok) : Contract Try.prog 24 [txE t] (txE t) := c_CopyTx t h
theorem r_Eq (a b : TxD) (ha : a.ok) (hb : b.ok) : Contract Try.prog 21 [txE a, txE b] (.bool (decide (a = b))) := c_EqTx a b ha hb
end Go.Proofs.Ytpepfhbfooeoeaa.VA
end
section
namespace Go.Proofs.Ytpepfhbfooeoeaa.VA
set_option maxRecDepth 10000
set_option maxHeartbeats 4000000

inductive ItemD where
  | mk (list : Bool) (text : List UInt8) (items : List ItemD)
def ItemD.list : ItemD → Bool
  | .mk l _ _ => l
def ItemD.text : ItemD → List UInt8
  | .mk _ t _ => t
def ItemD.items : ItemD → List ItemD
  | .mk _ _ xs => xs
mutual
def ItemD.av : ItemD → AV
  | .mk l t xs => .agg [.bool l, .str t, .sl false 3 (ItemD.avs xs)]
def ItemD.avs : List ItemD → List AV
  | [] => []
  | x :: xs => ItemD.av x :: ItemD.avs xs
end
theorem avs_map : ∀ xs : List ItemD, ItemD.avs xs = xs.map ItemD.av
  | [] => by rw [ItemD.avs]; rfl
  | x :: xs => by rw [ItemD.avs, avs_map xs]; rfl
def ItemD.cells (it : ItemD) : List AV := [.bool it.list, .str it.text, .sl false 3 (it.items.map ItemD.av)]
theorem ItemD.av_eq (it : ItemD) : it.av = .agg it.cells := by
  cases it with
  | mk l t xs => rw [ItemD.av, avs_map]; rfl
/-- How much an item holds. -/
def ItemD.wt : ItemD → Nat
  | .mk _ t xs => 1 + t.length + wts xs
where wts : List ItemD → Nat
  | [] => 0
  | x :: xs => x.wt + wts xs
abbrev wts := ItemD.wt.wts
theorem wt_eq (it : ItemD) : it.wt = 1 + it.text.length + wts it.items := by cases it; rw [ItemD.wt]; rfl
theorem wts_nil : wts [] = 0 := by rw [wts, ItemD.wt.wts]
theorem wts_cons (x : ItemD) (xs : List ItemD) : wts (x :: xs) = x.wt + wts xs := by rw [wts, ItemD.wt.wts]
theorem wt_pos (it : ItemD) : 1 ≤ it.wt := by rw [wt_eq]; omega
theorem wts_len : ∀ xs : List ItemD, xs.length ≤ wts xs
  | [] => Nat.zero_le _
  | x :: xs => by
    have := wts_len xs
    have := wt_pos x
    rw [wts_cons, List.length_cons]; omega
theorem wts_mem : ∀ {xs : List ItemD} {x : ItemD}, x ∈ xs → x.wt ≤ wts xs
  | y :: ys, x, h => by
    rw [wts_cons]
    rcases List.mem_cons.1 h with rfl | h
    · omega
    · have := wts_mem h; omega
theorem wts_append (xs ys : List ItemD) : wts (xs ++ ys) = wts xs + wts ys := by
  induction xs with
  | nil => rw [List.nil_append, wts_nil]; omega
  | cons x xs ih => rw [List.cons_append, wts_cons, wts_cons, ih]; omega
/-- Items of a size that may be. -/
def ItemD.ok (it : ItemD) : Prop := it.wt ≤ 16777216
theorem ItemD.ok.text {it : ItemD} (h : it.ok) : it.text.length ≤ 16777216 := by unfold ItemD.ok at h; rw [wt_eq] at h; omega
theorem ItemD.ok.num {it : ItemD} (h : it.ok) : it.items.length ≤ 16777216 := by
  unfold ItemD.ok at h; rw [wt_eq] at h
  have := wts_len it.items
  omega
theorem ItemD.ok.len {it : ItemD} (h : it.ok) : it.items.length * 48 ≤ reachBytes := by
  have := h.num
  unfold reachBytes; omega
theorem ItemD.ok.all {it : ItemD} (h : it.ok) : ∀ x, x ∈ it.items → x.ok := fun x hx => by
  unfold ItemD.ok at h ⊢
  rw [wt_eq] at h
  have := wts_mem hx
  omega
theorem item_lt {it x : ItemD} (h : x ∈ it.items) : SizeOf.sizeOf x < SizeOf.sizeOf it := by
  cases it with
  | mk l t xs =>
    have := List.sizeOf_lt_of_mem (show x ∈ xs from h)
    simp only [ItemD.mk.sizeOf_spec]
    omega
theorem ItemD.plain (it : ItemD) : Plain it.av := by
  rw [it.av_eq]
  refine .agg _ fun c hc => ?_
  simp only [ItemD.cells, List.mem_cons, List.not_mem_nil, or_false] at hc
  rcases hc with rfl | rfl | rfl
  · exact .bool _
  · exact .str _
  · refine .sl 3 _ fun d hd => ?_
    obtain ⟨x, hx, rfl⟩ := List.mem_map.1 hd
    exact x.plain
termination_by SizeOf.sizeOf it
decreasing_by exact item_lt hx
/-- A row within what is built: nil at first. -/
def repI (sz : Nat) : Nat → List AV → AV
  | 0, _ => .ext nilP
  | _ + 1, es => .own false sz es
theorem cellsI_len (it : ItemD) : it.cells.length = 3 := rfl
theorem c_copied (it : ItemD) (h : it.ok) : Contract Try.prog 148 [it.av] it.av := by
  have ih : ∀ x, x ∈ it.items → Contract Try.prog 148 [x.av] x.av := fun x hx => c_copied x (h.all x hx)
  have hl := h.len
  unfold reachBytes at hl
  refine contract_of (C := cf 27 [1, 2, 3, 5, 11, 12, 13, 14, 15] (fun _ => [])) (cf_ok _ _ _) (fn := Try.f148) Try.func148 (by kernel_rfl) rfl (by kernel_rfl) (by simp [cf]) (plain1 it.plain) (by decide) (cellsOk (by kernel_rfl)) ?_
  simp only [go_sem, seval, ItemD.av_eq, ItemD.cells]
  refine ex_iter [1, 2, 3, 11, 12, 13, 14] (fun i : Nat => ⟨[(1, .var 1 0), (2, .var 2 0), (3, .var 3 0), (11, .var 1 2), (12, .sl false 3 (it.items.map ItemD.av)), (13, .int .i64 it.items.length), (14, .int .i64 i)], [(1, it.cells), (2, [.bool false, .str [], .own false 3 []]), (3, [.bool it.list, .str it.text, repI 3 i ((it.items.take i).map ItemD.av)])], []⟩) (fun i => i ≤ it.items.length) (fun i => it.items.length - i) 0 ?_ ?_ ?_
  · simp only [ASt.keep, consIf, keepL, keepV, AV.isBot, List.contains_cons, List.contains_nil, Nat.reduceBEq, Bool.or_false, Bool.false_or, Bool.or_true, Bool.true_or, beq_self_eq_true, Bool.false_eq_true, ↓reduceIte, if_false, if_true]
    simp only [List.length_map]
    rfl
  · exact Nat.zero_le _
  · intro n i hi next
    simp only [go_sem, seval, List.length_map]
    refine ex_br (fun h => ?_) (fun h => ?_)
    · have hlt : i < it.items.length := by simpa using h
      obtain ⟨x, ex⟩ : ∃ x, it.items[i]? = some x := ⟨_, List.getElem?_eq_getElem hlt⟩
      have hx := ih x (List.mem_of_getElem? ex)
      have hs : (it.items.take i).map ItemD.av ++ [.agg x.cells] = (it.items.take (i + 1)).map ItemD.av := by rw [← ItemD.av_eq]; exact take_snoc ItemD.av ex
      rw [ItemD.av_eq] at hx
      simp only [go_sem, seval, List.length_map, List.getElem?_map, ex, Int.toNat_natCast, ItemD.av_eq, ItemD.cells]
      repeat with_reducible refine And.intro (by first | omega | (simp only [List.length_cons, List.length_append, List.length_nil, List.length_map, List.length_take, List.length_drop, List.length_set]; omega)) ?_
      try simp only [go_sem, seval, ItemD.cells]
      refine ex_draw [7] [] (.quiet 0 (.quiet 1 (.quiet 2 (.one 3 (.one 4 (.one 5 (.quiet 6 (.unlock (.one 7 (.fin)))))))))) (by kernel_rfl) ?_
      cases i with
      | zero =>
        simp only [go_sem, seval, repI]
        refine ex_call (by exact hx) ?_
        simp only [go_sem, seval, cellsI_len, repI]
        repeat with_reducible refine And.intro (by first | omega | (simp only [List.length_cons, List.length_append, List.length_nil, List.length_map, List.length_take, List.length_drop, List.length_set]; omega)) ?_
        refine next (0 + 1) _ (by omega) (by omega) ?_
        rw [← wi64_nat 0 (by omega), ← hs]
        simp only [ASt.keep, consIf, keepL, keepV, AV.isBot, List.contains_cons, List.contains_nil, Nat.reduceBEq, Bool.or_false, Bool.false_or, Bool.or_true, Bool.true_or, beq_self_eq_true, Bool.false_eq_true, ↓reduceIte, if_false, if_true]
        rfl
      | succ i =>
        simp only [go_sem, seval, repI]
        refine ex_call (by exact hx) ?_
        simp only [go_sem, seval, cellsI_len, repI, List.length_map]
        repeat with_reducible refine And.intro (by first | omega | (simp only [List.length_cons, List.length_append, List.length_nil, List.length_map, List.length_take, List.length_drop, List.length_set]; omega)) ?_
        refine next (i + 1 + 1) _ (by omega) (by omega) ?_
        rw [← wi64_nat (i + 1) (by omega), ← hs]
        simp only [ASt.keep, consIf, keepL, keepV, AV.isBot, List.contains_cons, List.contains_nil, Nat.reduceBEq, Bool.or_false, Bool.false_or, Bool.or_true, Bool.true_or, beq_self_eq_true, Bool.false_eq_true, ↓reduceIte, if_false, if_true]
        rfl
    · have hge : i = it.items.length := by simp at h; omega
      subst hge
      simp only [go_sem, seval, List.take_length, ItemD.cells]
      cases hn : it.items with
      | nil =>
        simp only [go_sem, seval, repI]
        refine finOneD (r' := .agg [.bool it.list, .str it.text, .ext nilP]) ?_ (dulls_agg (.cons (.refl _) (.cons (.refl _) (.cons (.nil _ _) .nil)))) (fun _ e => by cases e) (fun _ e => by cases e)
        show resOf _ _ [.cell 2 134] = _
        simp only [go_sem, seval]
      | cons y ys =>
        simp only [go_sem, seval, repI]
        refine finOneD (r' := .agg [.bool it.list, .str it.text, .sl true 3 (ItemD.av y :: ys.map ItemD.av)]) ?_ (dulls_agg (.cons (.refl _) (.cons (.refl _) (.cons (dsl _ _ _) .nil)))) (fun _ e => by cases e) (fun _ e => by cases e)
        show resOf _ _ [.cell 2 134] = _
        simp only [go_sem, seval]
termination_by SizeOf.sizeOf it
decreasing_by exact item_lt hx
/-- What a typed value of the type Item is. -/
theorem bulks_map {α : Type} (f : α → AV) (g : α → Nat) (h : ∀ a, g a ≤ (f a).bulk) : ∀ l : List α, (l.map g).sum ≤ AV.bulks (l.map f)
  | [] => by simp [AV.bulks]
  | a :: l => by
    rw [List.map_cons, List.map_cons, List.sum_cons, AV.bulks]
    have := bulks_map f g h l
    have := h a
    omega
theorem bulks_mem : ∀ {xs : List AV} {x : AV}, x ∈ xs → x.bulk ≤ AV.bulks xs
  | y :: ys, x, h => by
    rw [AV.bulks]
    rcases List.mem_cons.1 h with rfl | h
    · omega
    · have := bulks_mem h; omega
theorem wt_bulk (it : ItemD) : it.wt ≤ it.av.bulk := by
  rw [wt_eq, it.av_eq, ItemD.cells]
  simp only [AV.bulk, AV.bulks]
  have key : ∀ xs : List ItemD, (∀ x ∈ xs, x.wt ≤ x.av.bulk) → wts xs ≤ AV.bulks (xs.map ItemD.av) := by
    intro xs
    induction xs with
    | nil => intro _; rw [wts_nil]; omega
    | cons x xs ih =>
      intro h
      rw [wts_cons, List.map_cons, AV.bulks]
      have := ih fun y hy => h y (List.mem_cons_of_mem _ hy)
      have := h x (by simp)
      omega
  have := key it.items fun x hx => wt_bulk x
  omega
termination_by SizeOf.sizeOf it
decreasing_by exact item_lt hx
theorem map_of_all {α : Type} {f : α → AV} : ∀ es : List AV, (∀ y ∈ es, ∃ a, y = f a) → ∃ l : List α, es = l.map f
  | [], _ => ⟨[], rfl⟩
  | y :: es, h => by
    obtain ⟨a, rfl⟩ := h y (by simp)
    obtain ⟨l, rfl⟩ := map_of_all es fun x hx => h x (List.mem_cons_of_mem _ hx)
    exact ⟨a :: l, rfl⟩
theorem ty_item : ∀ (n : Nat) {x : AV}, Ty ti 134 x → x.bulk ≤ n → ∃ it : ItemD, x = it.av := by
  intro n
  induction n with
  | zero =>
    intro x h hb
    cases x <;> simp [AV.bulk] at hb
  | succ n ih =>
    intro x h hb
    obtain ⟨xs, rfl, hl, hf⟩ := ty_struct rfl h
    have hl : xs.length = 3 := hl
    match xs, hl with
    | [a, b, c], _ =>
      have ha := hf 0 _ _ _ _ rfl rfl
      have hb' := hf 1 _ _ _ _ rfl rfl
      have hc := hf 2 _ _ _ _ rfl rfl
      obtain ⟨l, rfl⟩ := ty_bool rfl ha
      obtain ⟨t, rfl, _⟩ := ty_str rfl hb'
      obtain ⟨es, rfl, _, hes⟩ := ty_slice rfl hc
      have hb2 : AV.bulks es ≤ n := by
        simp only [List.flatMap_cons, List.flatMap_nil, AV.flat, AV.bulk, AV.bulks, List.cons_append, List.nil_append] at hb
        omega
      obtain ⟨is, rfl⟩ := map_of_all (f := ItemD.av) es fun y hy => ih (hes y hy) (Nat.le_trans (bulks_mem hy) hb2)
      refine ⟨.mk l t is, ?_⟩
      rw [ItemD.av, avs_map]
      rfl
end Go.Proofs.Ytpepfhbfooeoeaa.VA
end
section
namespace Go.Proofs.Ytpepfhbfooeoeaa.VA
set_option maxRecDepth 10000
set_option maxHeartbeats 4000000

/-- How much an item weighs, as the laws reckon. -/
def wtOf : ItemD → Nat
  | .mk _ t xs => wtGo (1 + t.length) xs
where wtGo : Nat → List ItemD → Nat
  | n, [] => n
  | n, x :: xs => if n < 1048576 then wtGo (n + wtOf x) xs else n
theorem wtOf_eq (it : ItemD) : wtOf it = wtOf.wtGo (1 + it.text.length) it.items := by cases it; rw [wtOf]; rfl
theorem wtGo_nil (n : Nat) : wtOf.wtGo n [] = n := by rw [wtOf.wtGo]
theorem wtGo_cons (n : Nat) (x : ItemD) (xs : List ItemD) : wtOf.wtGo n (x :: xs) = if n < 1048576 then wtOf.wtGo (n + wtOf x) xs else n := by rw [wtOf.wtGo]
theorem wtGo_end {n : Nat} {xs : List ItemD} (h : ¬ n < 1048576) : wtOf.wtGo n xs = n := by
  cases xs with
  | nil => exact wtGo_nil n
  | cons x xs => rw [wtGo_cons, if_neg h]
theorem wtGo_drop {n : Nat} {xs : List ItemD} {i : Nat} {x : ItemD} (e : xs[i]? = some x) (h : n < 1048576) : wtOf.wtGo n (xs.drop i) = wtOf.wtGo (n + wtOf x) (xs.drop (i + 1)) := by
  obtain ⟨hi, rfl⟩ := List.getElem?_eq_some_iff.1 e
  rw [← List.getElem_cons_drop hi, wtGo_cons, if_pos h]
theorem wtGo_le {xs : List ItemD} (h : ∀ x ∈ xs, wtOf x ≤ x.wt) : ∀ n, n ≤ wtOf.wtGo n xs ∧ wtOf.wtGo n xs ≤ n + wts xs := by
  induction xs with
  | nil => intro n; rw [wtGo_nil, wts_nil]; omega
  | cons x xs ih =>
    intro n
    rw [wtGo_cons, wts_cons]
    have := ih (fun y hy => h y (List.mem_cons_of_mem _ hy)) (n + wtOf x)
    have := h x (by simp)
    split <;> omega
theorem wtOf_le (it : ItemD) : wtOf it ≤ it.wt := by
  rw [wtOf_eq, wt_eq]
  exact ((wtGo_le fun x hx => wtOf_le x) _).2
termination_by SizeOf.sizeOf it
decreasing_by exact item_lt hx
theorem wtGo_full {xs : List ItemD} (h : ∀ x ∈ xs, wtOf x < 1048576 → wtOf x = x.wt) : ∀ n, wtOf.wtGo n xs < 1048576 → wtOf.wtGo n xs = n + wts xs := by
  induction xs with
  | nil => intro n _; rw [wtGo_nil, wts_nil]; rfl
  | cons x xs ih =>
    intro n hn
    rw [wtGo_cons] at hn ⊢
    rw [wts_cons]
    split at hn
    · rename_i h1
      rw [if_pos h1]
      have h2 := (wtGo_le (xs := xs) (fun y _ => wtOf_le y) (n + wtOf x)).1
      rw [ih (fun y hy => h y (List.mem_cons_of_mem _ hy)) _ hn, h x (by simp) (by omega)]
      omega
    · omega
theorem wtOf_full (it : ItemD) (h : wtOf it < 1048576) : wtOf it = it.wt := by
  rw [wtOf_eq] at h ⊢
  rw [wt_eq]
  exact wtGo_full (fun x hx hlt => wtOf_full x hlt) _ h
termination_by SizeOf.sizeOf it
decreasing_by exact item_lt hx
/-- How deep an item is. -/
def dpOf : ItemD → Nat
  | .mk _ _ xs => dpGo 0 xs + 1
where dpGo : Nat → List ItemD → Nat
  | n, [] => n
  | n, x :: xs => dpGo (max n (dpOf x)) xs
theorem dpOf_eq (it : ItemD) : dpOf it = dpOf.dpGo 0 it.items + 1 := by cases it; rw [dpOf]; rfl
theorem dpGo_nil (n : Nat) : dpOf.dpGo n [] = n := by rw [dpOf.dpGo]
theorem dpGo_cons (n : Nat) (x : ItemD) (xs : List ItemD) : dpOf.dpGo n (x :: xs) = dpOf.dpGo (max n (dpOf x)) xs := by rw [dpOf.dpGo]
theorem dpGo_drop {n : Nat} {xs : List ItemD} {i : Nat} {x : ItemD} (e : xs[i]? = some x) : dpOf.dpGo n (xs.drop i) = dpOf.dpGo (max n (dpOf x)) (xs.drop (i + 1)) := by
  obtain ⟨hi, rfl⟩ := List.getElem?_eq_some_iff.1 e
  rw [← List.getElem_cons_drop hi, dpGo_cons]
theorem dpGo_le {xs : List ItemD} {m : Nat} (h : ∀ x ∈ xs, dpOf x ≤ m) : ∀ n, n ≤ m → dpOf.dpGo n xs ≤ m := by
  induction xs with
  | nil => intro n hn; rw [dpGo_nil]; exact hn
  | cons x xs ih =>
    intro n hn
    rw [dpGo_cons]
    have := h x (by simp)
    exact ih (fun y hy => h y (List.mem_cons_of_mem _ hy)) _ (by omega)
theorem dpOf_le (it : ItemD) : dpOf it ≤ it.wt := by
  rw [dpOf_eq, wt_eq]
  have := dpGo_le (m := wts it.items) (fun x hx => Nat.le_trans (dpOf_le x) (wts_mem hx)) 0 (Nat.zero_le _)
  omega
termination_by SizeOf.sizeOf it
decreasing_by exact item_lt hx

theorem max_nat (a b : Nat) : (if (b : Int) > (a : Int) then (b : Int) else (a : Int)) = ((max a b : Nat) : Int) := by
  split <;> omega
end Go.Proofs.Ytpepfhbfooeoeaa.VA
end
section
namespace Go.Proofs.Ytpepfhbfooeoeaa.VA

def headB (n base : Nat) : List UInt8 := if n ≤ 55 then [UInt8.ofNat (base + n)] else UInt8.ofNat (base + 55 + byteLen n) :: bytesOf n
def aheadN (n : Nat) : Nat := if n ≤ 55 then 1 else 1 + byteLen n
theorem headB_len (n base : Nat) : (headB n base).length = aheadN n := by
  unfold headB aheadN
  split
  · rfl
  · rw [List.length_cons, bytesOf_len]; omega
def aloneB (s : List UInt8) : Bool := match s with
  | [b] => decide (b.toNat < 128)
  | _ => false
theorem alone_len {s : List UInt8} (h : aloneB s = true) : s.length = 1 := by
  unfold aloneB at h
  split at h
  · rfl
  · cases h
/-- An item's bytes. -/
def rawOf : ItemD → List UInt8
  | .mk false t _ => if aloneB t = true then t else headB t.length 128 ++ t
  | .mk true _ xs => headB (raws xs).length 192 ++ raws xs
where raws : List ItemD → List UInt8
  | [] => []
  | x :: xs => rawOf x ++ raws xs
abbrev raws := rawOf.raws
theorem raws_nil : raws [] = [] := by rw [raws, rawOf.raws]
theorem raws_cons (x : ItemD) (xs : List ItemD) : raws (x :: xs) = rawOf x ++ raws xs := by rw [raws, rawOf.raws]
theorem raws_append (xs ys : List ItemD) : raws (xs ++ ys) = raws xs ++ raws ys := by
  induction xs with
  | nil => rw [raws_nil]; rfl
  | cons x xs ih => rw [List.cons_append, raws_cons, raws_cons, ih, List.append_assoc]
theorem rawOf_text {it : ItemD} (h : it.list = false) : rawOf it = if aloneB it.text = true then it.text else headB it.text.length 128 ++ it.text := by
  cases it with
  | mk l t xs => cases h; rw [rawOf]; rfl
theorem rawOf_list {it : ItemD} (h : it.list = true) : rawOf it = headB (raws it.items).length 192 ++ raws it.items := by
  cases it with
  | mk l t xs => cases h; rw [rawOf]; rfl
theorem byteLen_small {n : Nat} (h : n < 1099511627776) : byteLen n ≤ 5 := (byteLen_le n 5).2 (by omega)
theorem ahead_le {n : Nat} (h : n < 1099511627776) : aheadN n ≤ 6 := by
  unfold aheadN
  have := byteLen_small h
  split <;> omega
theorem ahead_pos (n : Nat) : 1 ≤ aheadN n := by unfold aheadN; split <;> omega
theorem raws_le {xs : List ItemD} (h : ∀ x ∈ xs, (rawOf x).length ≤ 9 * x.wt) : (raws xs).length ≤ 9 * wts xs := by
  induction xs with
  | nil => rw [raws_nil, wts_nil]; exact Nat.le_refl _
  | cons x xs ih =>
    rw [raws_cons, wts_cons, List.length_append]
    have := ih fun y hy => h y (List.mem_cons_of_mem _ hy)
    have := h x (by simp)
    omega
theorem rawOf_le (it : ItemD) (ho : it.ok) : (rawOf it).length ≤ 9 * it.wt := by
  have hw := wt_eq it
  cases hl : it.list with
  | false =>
    rw [rawOf_text hl]
    have := ho.text
    have := ahead_le (n := it.text.length) (by omega)
    split
    · omega
    · rw [List.length_append, headB_len]; omega
  | true =>
    rw [rawOf_list hl, List.length_append, headB_len]
    have h1 := raws_le (xs := it.items) fun x hx => rawOf_le x (ho.all x hx)
    have h2 : wts it.items ≤ 16777216 := by have := ho; unfold ItemD.ok at this; omega
    have := ahead_le (n := (raws it.items).length) (by omega)
    omega
termination_by SizeOf.sizeOf it
decreasing_by exact item_lt hx
/-- Whether an item may be, beneath so many lists. -/
def okI : Nat → ItemD → Bool
  | d, .mk false t xs => xs.isEmpty && decide ((rawOf (.mk false t xs)).length ≤ 65536)
  | d, .mk true t xs => t.isEmpty && decide (d < 16) && okIs (d + 1) xs && decide ((rawOf (.mk true t xs)).length ≤ 65536)
where okIs : Nat → List ItemD → Bool
  | _, [] => true
  | d, x :: xs => okI d x && okIs d xs
abbrev okIs := okI.okIs
theorem okIs_nil (d : Nat) : okIs d [] = true := by rw [okIs, okI.okIs]
theorem okIs_cons (d : Nat) (x : ItemD) (xs : List ItemD) : okIs d (x :: xs) = (okI d x && okIs d xs) := by rw [okIs, okI.okIs]
theorem okI_text {it : ItemD} (d : Nat) (h : it.list = false) : okI d it = (it.items.isEmpty && decide ((rawOf it).length ≤ 65536)) := by
  cases it with
  | mk l t xs => cases h; rw [okI]; rfl
theorem okI_list {it : ItemD} (d : Nat) (h : it.list = true) : okI d it = (it.text.isEmpty && decide (d < 16) && okIs (d + 1) it.items && decide ((rawOf it).length ≤ 65536)) := by
  cases it with
  | mk l t xs => cases h; rw [okI]; rfl
theorem okIs_mem {d : Nat} : ∀ {xs : List ItemD}, okIs d xs = true → ∀ x ∈ xs, okI d x = true
  | [], _, x, h => by cases h
  | y :: ys, h, x, hx => by
    rw [okIs_cons, Bool.and_eq_true] at h
    rcases List.mem_cons.1 hx with rfl | hx
    · exact h.1
    · exact okIs_mem h.2 x hx
theorem okIs_all {d : Nat} : ∀ {xs : List ItemD}, (∀ x ∈ xs, okI d x = true) → okIs d xs = true
  | [], _ => okIs_nil d
  | y :: ys, h => by
    rw [okIs_cons, Bool.and_eq_true]
    exact ⟨h y (by simp), okIs_all fun x hx => h x (List.mem_cons_of_mem _ hx)⟩
/-- The page's own: how deep, too deep where it may not be. -/
def deepR : ItemD → Nat
  | .mk false _ xs => if xs.isEmpty then 0 else 17
  | .mk true t xs => if t.isEmpty then deepsR 0 xs + 1 else 17
where deepsR : Nat → List ItemD → Nat
  | n, [] => n
  | n, x :: xs => deepsR (max n (deepR x)) xs
abbrev deepsR := deepR.deepsR
theorem deepsR_nil (n : Nat) : deepsR n [] = n := by rw [deepsR, deepR.deepsR]
theorem deepsR_cons (n : Nat) (x : ItemD) (xs : List ItemD) : deepsR n (x :: xs) = deepsR (max n (deepR x)) xs := by rw [deepsR, deepR.deepsR]
theorem deepR_text {it : ItemD} (h : it.list = false) : deepR it = if it.items.isEmpty = true then 0 else 17 := by
  cases it with
  | mk l t xs => cases h; rw [deepR]; rfl
theorem deepR_list {it : ItemD} (h : it.list = true) : deepR it = if it.text.isEmpty = true then deepsR 0 it.items + 1 else 17 := by
  cases it with
  | mk l t xs => cases h; rw [deepR]; rfl
theorem deepsR_le {xs : List ItemD} {m : Nat} : ∀ n, deepsR n xs ≤ m ↔ n ≤ m ∧ ∀ x ∈ xs, deepR x ≤ m := by
  induction xs with
  | nil => intro n; rw [deepsR_nil]; simp
  | cons x xs ih =>
    intro n
    rw [deepsR_cons, ih]
    simp only [List.mem_cons, forall_eq_or_imp, Nat.max_le, and_assoc]
theorem deepR_wt (it : ItemD) : deepR it ≤ it.wt + 17 := by
  cases hl : it.list with
  | false => rw [deepR_text hl]; split <;> omega
  | true =>
    rw [deepR_list hl]
    split
    · have : deepsR 0 it.items ≤ wts it.items + 17 := (deepsR_le 0).2 ⟨by omega, fun x hx => by
        have := deepR_wt x
        have := wts_mem hx
        omega⟩
      have := wt_eq it
      omega
    · omega
termination_by SizeOf.sizeOf it
decreasing_by exact item_lt hx
/-- The page's own bytes: no more of what is too much. -/
def rawR : ItemD → List UInt8
  | .mk false t _ => if aloneB t = true then t else headB t.length 128 ++ t
  | .mk true _ xs => headB (rawsR [] xs).length 192 ++ rawsR [] xs
where rawsR : List UInt8 → List ItemD → List UInt8
  | s, [] => s
  | s, x :: xs => if s.length ≤ 131072 then rawsR (s ++ rawR x) xs else s
abbrev rawsR := rawR.rawsR
theorem rawsR_nil (s : List UInt8) : rawsR s [] = s := by rw [rawsR, rawR.rawsR]
theorem rawsR_cons (s : List UInt8) (x : ItemD) (xs : List ItemD) : rawsR s (x :: xs) = if s.length ≤ 131072 then rawsR (s ++ rawR x) xs else s := by rw [rawsR, rawR.rawsR]
theorem rawsR_end {s : List UInt8} {xs : List ItemD} (h : ¬ s.length ≤ 131072) : rawsR s xs = s := by
  cases xs with
  | nil => exact rawsR_nil s
  | cons x xs => rw [rawsR_cons, if_neg h]
theorem rawsR_drop {s : List UInt8} {xs : List ItemD} {i : Nat} {x : ItemD} (e : xs[i]? = some x) (h : s.length ≤ 131072) : rawsR s (xs.drop i) = rawsR (s ++ rawR x) (xs.drop (i + 1)) := by
  obtain ⟨hi, rfl⟩ := List.getElem?_eq_some_iff.1 e
  rw [← List.getElem_cons_drop hi, rawsR_cons, if_pos h]
theorem rawR_text {it : ItemD} (h : it.list = false) : rawR it = rawOf it := by
  rw [rawOf_text h]
  cases it with
  | mk l t xs => cases h; rw [rawR]; rfl
theorem rawR_list {it : ItemD} (h : it.list = true) : rawR it = headB (rawsR [] it.items).length 192 ++ rawsR [] it.items := by
  cases it with
  | mk l t xs => cases h; rw [rawR]; rfl
theorem rawsR_le {xs : List ItemD} (h : ∀ x ∈ xs, (rawR x).length ≤ 9 * x.wt) : ∀ s, s.length ≤ (rawsR s xs).length ∧ (rawsR s xs).length ≤ s.length + 9 * wts xs := by
  induction xs with
  | nil => intro s; rw [rawsR_nil, wts_nil]; omega
  | cons x xs ih =>
    intro s
    rw [rawsR_cons, wts_cons]
    have h1 := ih (fun y hy => h y (List.mem_cons_of_mem _ hy)) (s ++ rawR x)
    rw [List.length_append] at h1
    have := h x (by simp)
    split <;> omega
theorem rawR_le (it : ItemD) (ho : it.ok) : (rawR it).length ≤ 9 * it.wt := by
  cases hl : it.list with
  | false => rw [rawR_text hl]; exact rawOf_le it ho
  | true =>
    have hw := wt_eq it
    rw [rawR_list hl, List.length_append, headB_len]
    have h1 := (rawsR_le (xs := it.items) (fun x hx => rawR_le x (ho.all x hx)) []).2
    rw [List.length_nil] at h1
    have h2 : wts it.items ≤ 16777216 := by have := ho; unfold ItemD.ok at this; omega
    have := ahead_le (n := (rawsR [] it.items).length) (by omega)
    omega
termination_by SizeOf.sizeOf it
decreasing_by exact item_lt hx
theorem rawsR_raws {xs : List ItemD} (ho : ∀ x ∈ xs, x.ok) (h : ∀ x ∈ xs, rawR x = rawOf x ∨ (65536 < (rawR x).length ∧ 65536 < (rawOf x).length)) : ∀ s t, s = t ∨ (65536 < s.length ∧ 65536 < t.length) →
    rawsR s xs = t ++ raws xs ∨ (65536 < (rawsR s xs).length ∧ 65536 < (t ++ raws xs).length) := by
  induction xs with
  | nil => intro s t hst; rw [rawsR_nil, raws_nil, List.append_nil]; exact hst
  | cons x xs ih =>
    intro s t hst
    rw [rawsR_cons, raws_cons, ← List.append_assoc]
    split
    · refine ih (fun y hy => ho y (List.mem_cons_of_mem _ hy)) (fun y hy => h y (List.mem_cons_of_mem _ hy)) _ _ ?_
      rcases hst with rfl | ⟨h1, h2⟩
      · rcases h x (by simp) with e | ⟨h1, h2⟩
        · rw [e]; exact .inl rfl
        · refine .inr ⟨?_, ?_⟩ <;> rw [List.length_append] <;> omega
      · refine .inr ⟨?_, ?_⟩ <;> rw [List.length_append] <;> omega
    · rename_i hlong
      refine .inr ⟨by omega, ?_⟩
      rw [List.length_append, List.length_append]
      rcases hst with rfl | ⟨h1, h2⟩ <;> omega
theorem rawR_rawOf (it : ItemD) (ho : it.ok) : rawR it = rawOf it ∨ (65536 < (rawR it).length ∧ 65536 < (rawOf it).length) := by
  cases hl : it.list with
  | false => exact .inl (rawR_text hl)
  | true =>
    rw [rawR_list hl, rawOf_list hl]
    have := rawsR_raws (xs := it.items) ho.all (fun x hx => rawR_rawOf x (ho.all x hx)) [] [] (.inl rfl)
    rw [List.nil_append] at this
    rcases this with e | ⟨h1, h2⟩
    · rw [e]; exact .inl rfl
    · refine .inr ⟨?_, ?_⟩ <;> rw [List.length_append] <;> omega
termination_by SizeOf.sizeOf it
decreasing_by exact item_lt hx
theorem raws_mem : ∀ {xs : List ItemD} {x : ItemD}, x ∈ xs → (rawOf x).length ≤ (raws xs).length
  | y :: ys, x, h => by
    rw [raws_cons, List.length_append]
    rcases List.mem_cons.1 h with rfl | h
    · omega
    · have := raws_mem h; omega
/-- What may be, by the page and by the code. -/
theorem deep_ok (it : ItemD) : ∀ d, okI d it = true ↔ (deepR it + d ≤ 16 ∨ (deepR it = 0)) ∧ (rawOf it).length ≤ 65536 := by
  cases hl : it.list with
  | false =>
    intro d
    rw [okI_text d hl, deepR_text hl, Bool.and_eq_true, decide_eq_true_eq]
    split
    · rename_i h; rw [h]; simp
    · rename_i h
      simp only [h]
      constructor
      · rintro ⟨h, _⟩; cases h
      · rintro ⟨h | h, _⟩ <;> omega
  | true =>
    intro d
    rw [okI_list d hl, deepR_list hl]
    simp only [Bool.and_eq_true, decide_eq_true_eq]
    split
    · rename_i ht
      constructor
      · rintro ⟨⟨⟨_, hd⟩, hall⟩, hlen⟩
        refine ⟨.inl ?_, hlen⟩
        have := (deepsR_le (xs := it.items) (m := 15 - d) 0).2 ⟨Nat.zero_le _, fun x hx => ?_⟩
        · omega
        · have := ((deep_ok x (d + 1)).1 (okIs_mem hall x hx)).1
          omega
      · rintro ⟨hd, hlen⟩
        have hd : deepsR 0 it.items + 1 + d ≤ 16 := by omega
        refine ⟨⟨⟨ht, by omega⟩, okIs_all fun x hx => (deep_ok x (d + 1)).2 ⟨?_, ?_⟩⟩, hlen⟩
        · have := ((deepsR_le (xs := it.items) (m := 15 - d) 0).1 (by omega)).2 x hx
          omega
        · have h1 := raws_mem hx
          rw [rawOf_list hl, List.length_append] at hlen
          omega
    · rename_i ht
      constructor
      · rintro ⟨⟨⟨h, _⟩, _⟩, _⟩; exact absurd h ht
      · rintro ⟨h, _⟩; omega
termination_by SizeOf.sizeOf it
decreasing_by all_goals exact item_lt (by assumption)
end Go.Proofs.Ytpepfhbfooeoeaa.VA
end
section
namespace Go.Proofs.Ytpepfhbfooeoeaa.VA

def hdLen (b : UInt8) : Nat := if 192 ≤ b.toNat then b.toNat - 192 else b.toNat - 128
def hdRest (l : Bool) (m : Nat) (t : List UInt8) : Except Nat (Bool × Nat × Nat) :=
  if m ≤ 55 then .ok (l, 1, m)
  else if t.length < m - 55 then .error 7
  else if t.head? = some 0 then .error 1
  else if numOf (t.take (m - 55)) > 65536 ∨ numOf (t.take (m - 55)) ≤ 55 then .error 1
  else .ok (l, 1 + (m - 55), numOf (t.take (m - 55)))
/-- What the first bytes tell: a list or a text, where what is in it begins, how long that is. -/
def hdOf : List UInt8 → Except Nat (Bool × Nat × Nat)
  | [] => .error 7
  | b :: t => if b.toNat < 128 then .ok (false, 0, 1) else hdRest (decide (192 ≤ b.toNat)) (hdLen b) t
theorem hd_cons (b : UInt8) (t : List UInt8) : hdOf (b :: t) = if b.toNat < 128 then .ok (false, 0, 1) else hdRest (decide (192 ≤ b.toNat)) (hdLen b) t := rfl
def baseOf (l : Bool) : Nat := if l = true then 192 else 128
theorem byte_nat {m : Nat} (h : m < 256) : (UInt8.ofNat m).toNat = m := by rw [UInt8.toNat_ofNat']; omega
theorem byteLen3 {n : Nat} (h : n ≤ 65536) : byteLen n ≤ 3 := (byteLen_le n 3).2 (by omega)
theorem byteLen_pos {n : Nat} (h : 55 < n) : 1 ≤ byteLen n := by
  have := byteLen_le n 0
  simp at this
  omega
theorem hd_first (l : Bool) (m : Nat) (hm : m < 64) (t : List UInt8) : hdOf (UInt8.ofNat (baseOf l + m) :: t) = hdRest l m t := by
  cases l with
  | true =>
    have e : (UInt8.ofNat (baseOf true + m)).toNat = 192 + m := byte_nat (show 192 + m < 256 by omega)
    rw [hd_cons]
    unfold hdLen
    rw [e, if_neg (by omega), if_pos (by omega), decide_eq_true (by omega), show 192 + m - 192 = m by omega]
  | false =>
    have e : (UInt8.ofNat (baseOf false + m)).toNat = 128 + m := byte_nat (show 128 + m < 256 by omega)
    rw [hd_cons]
    unfold hdLen
    rw [e, if_neg (by omega), if_neg (by omega), decide_eq_false (by omega), show 128 + m - 128 = m by omega]
theorem hd_head (l : Bool) (n : Nat) (hn : n ≤ 65536) (t : List UInt8) : hdOf (headB n (baseOf l) ++ t) = .ok (l, aheadN n, n) := by
  unfold headB aheadN
  have hb3 := byteLen3 hn
  split
  · rename_i h
    rw [List.cons_append, List.nil_append, hd_first l n (by omega)]
    unfold hdRest
    rw [if_pos h]
  · rename_i h
    have hp := byteLen_pos (by omega : 55 < n)
    have hlen : (bytesOf n ++ t).length = byteLen n + t.length := by rw [List.length_append, bytesOf_len]
    have htake : (bytesOf n ++ t).take (byteLen n) = bytesOf n := by rw [List.take_append_of_le_length (by rw [bytesOf_len]; omega), List.take_of_length_le (by rw [bytesOf_len]; omega)]
    have hhead : (bytesOf n ++ t).head? ≠ some 0 := by
      rw [List.head?_append]
      have h1 := bytesOf_head n
      have h2 := bytesOf_len n
      cases hq : bytesOf n with
      | nil => rw [hq] at h2; simp at h2; omega
      | cons a r => rw [hq] at h1; exact h1
    rw [List.cons_append, Nat.add_assoc, hd_first l (55 + byteLen n) (by omega)]
    unfold hdRest
    rw [show 55 + byteLen n - 55 = byteLen n by omega, if_neg (by omega), if_neg (by omega), if_neg hhead, htake, bytesOf_val, if_neg (by omega)]
/-- A head that is cut off. -/
theorem hd_cut (l : Bool) (n : Nat) (hn : n ≤ 65536) {j : Nat} (hj : j < aheadN n) : hdOf ((headB n (baseOf l)).take j) = .error 7 := by
  have hb3 := byteLen3 hn
  cases j with
  | zero => rfl
  | succ j =>
    unfold aheadN at hj
    split at hj
    · omega
    · rename_i h
      have hlen : ((bytesOf n).take j).length < byteLen n := by rw [List.length_take, bytesOf_len]; omega
      unfold headB
      rw [if_neg h, List.take_succ_cons, Nat.add_assoc, hd_first l (55 + byteLen n) (by omega)]
      unfold hdRest
      rw [show 55 + byteLen n - 55 = byteLen n by omega, if_neg (by omega), if_pos hlen]
/-- A head that is read is the head of what it tells. -/
theorem hd_back {s : List UInt8} {l : Bool} {f n : Nat} (h : hdOf s = .ok (l, f, n)) :
    (f = 0 ∧ l = false ∧ n = 1 ∧ ∃ b t, s = b :: t ∧ b.toNat < 128) ∨ (f = aheadN n ∧ f ≤ s.length ∧ n ≤ 65536 ∧ s.take f = headB n (baseOf l)) := by
  cases s with
  | nil => cases h
  | cons b t =>
    rw [hd_cons] at h
    have hb : b.toNat < 256 := b.toNat_lt
    split at h
    · rename_i h1
      cases h
      exact .inl ⟨rfl, rfl, rfl, b, t, rfl, h1⟩
    · rename_i h1
      refine .inr ?_
      have hbase : b.toNat = baseOf (decide (192 ≤ b.toNat)) + hdLen b := by
        unfold baseOf hdLen
        by_cases h2 : 192 ≤ b.toNat
        · rw [decide_eq_true h2, if_pos rfl, if_pos h2]; omega
        · rw [decide_eq_false h2, if_neg (by simp), if_neg h2]; omega
      have hm64 : hdLen b < 64 := by unfold hdLen; split <;> omega
      generalize decide (192 ≤ b.toNat) = l2 at *
      generalize hdLen b = m at *
      unfold hdRest at h
      split at h
      · rename_i h2
        injection h with h; injection h with e1 h; injection h with e2 e3
        subst e1; subst e2; subst e3
        refine ⟨?_, by simp, by omega, ?_⟩
        · unfold aheadN; rw [if_pos h2]
        · unfold headB
          rw [if_pos h2, ← hbase, UInt8.ofNat_toNat]; rfl
      · rename_i h2
        split at h
        · cases h
        · rename_i h3
          split at h
          · cases h
          · rename_i h4
            split at h
            · cases h
            · rename_i h5
              injection h with h; injection h with e1 h; injection h with e2 e3
              subst e1; subst e2; subst e3
              have hl : (t.take (m - 55)).length = m - 55 := by rw [List.length_take]; omega
              have hh : (t.take (m - 55)).head? ≠ some 0 := by
                intro e
                apply h4
                rw [List.head?_take] at e
                split at e
                · cases e
                · exact e
              obtain ⟨k1, k2⟩ := bytesOf_numOf hh
              rw [hl] at k1
              refine ⟨?_, ?_, by omega, ?_⟩
              · unfold aheadN; rw [if_neg (by omega), k1]
              · rw [List.length_cons]; omega
              · unfold headB
                rw [if_neg (by omega), k1, k2, show baseOf l2 + 55 + (m - 55) = b.toNat by omega, UInt8.ofNat_toNat, Nat.add_comm 1, List.take_succ_cons]
mutual
/-- The item at the front of bytes, beneath so many lists, and how many bytes it has; or the page's error. -/
def parse (d : Nat) (s : List UInt8) : Except Nat (ItemD × Nat) :=
  match hdOf s with
  | .error e => .error e
  | .ok (l, f, n) =>
    if f + n > 65536 then .error 1
    else if s.length < f + n then .error 7
    else if l = false then (if 0 < f ∧ aloneB ((s.drop f).take n) = true then .error 1 else .ok (.mk false ((s.drop f).take n) [], f + n))
    else if 16 ≤ d then .error 1
    else if h : ((s.drop f).take n).length < s.length then
      match itemsP (d + 1) ((s.drop f).take n) with
      | some xs => .ok (.mk true [] xs, f + n)
      | none => .error 1
    else .error 1
termination_by (s.length, 0)
decreasing_by exact Prod.Lex.left _ _ h
def itemsP (d : Nat) (s : List UInt8) : Option (List ItemD) :=
  match s with
  | [] => some []
  | b :: t => match parse d (b :: t) with
    | .error _ => none
    | .ok (x, k) => if h : 0 < k then (itemsP d ((b :: t).drop k)).map (x :: ·) else none
termination_by (s.length, 1)
decreasing_by
  · exact Prod.Lex.right _ (by decide)
  · exact Prod.Lex.left _ _ (by rw [List.length_drop, List.length_cons]; omega)
end
theorem itemsP_nil (d : Nat) : itemsP d [] = some [] := by rw [itemsP]
theorem itemsP_cons {d : Nat} {s : List UInt8} (hs : s ≠ []) : itemsP d s = match parse d s with
    | .error _ => none
    | .ok (x, k) => if 0 < k then (itemsP d (s.drop k)).map (x :: ·) else none := by
  cases s with
  | nil => exact absurd rfl hs
  | cons b t =>
    rw [itemsP]
    cases parse d (b :: t) with
    | error e => rfl
    | ok r => obtain ⟨x, k⟩ := r; simp only [dite_eq_ite]
structure ParseOk (d : Nat) (s : List UInt8) (it : ItemD) (k : Nat) : Prop where
  pos : 1 ≤ k
  le : k ≤ s.length
  may : okI d it = true
  raw : rawOf it = s.take k
  wt : it.wt ≤ 2 * k
theorem take_cut {s : List UInt8} {f n : Nat} : s.take (f + n) = s.take f ++ (s.drop f).take n := by
  rw [List.take_add]
theorem parse_items (n : Nat) : (∀ d s, s.length ≤ n → ∀ it k, parse d s = .ok (it, k) → ParseOk d s it k) ∧ (∀ d s, s.length ≤ n → ∀ xs, itemsP d s = some xs → okIs d xs = true ∧ raws xs = s ∧ wts xs ≤ 2 * s.length) := by
  induction n with
  | zero =>
    refine ⟨fun d s hs it k h => ?_, fun d s hs xs h => ?_⟩
    · obtain rfl : s = [] := List.eq_nil_of_length_eq_zero (by omega)
      rw [parse] at h; cases h
    · obtain rfl : s = [] := List.eq_nil_of_length_eq_zero (by omega)
      rw [itemsP_nil] at h
      cases h
      exact ⟨okIs_nil d, raws_nil, by rw [wts_nil]; omega⟩
  | succ n ih =>
    have hp : ∀ d s, s.length ≤ n + 1 → ∀ it k, parse d s = .ok (it, k) → ParseOk d s it k := by
      intro d s hs it k h
      rw [parse] at h
      split at h
      · cases h
      · rename_i l f m hhd
        split at h
        · cases h
        · rename_i h1
          split at h
          · cases h
          · rename_i h2
            have hlen : ((s.drop f).take m).length = m := by rw [List.length_take, List.length_drop]; omega
            split at h
            · rename_i hl
              subst hl
              split at h
              · cases h
              · rename_i h3
                cases h
                rcases hd_back hhd with ⟨rfl, _, rfl, b, t, rfl, hb⟩ | ⟨hf, hfl, hm, htk⟩
                · have ht : ((b :: t).drop 0).take 1 = [b] := rfl
                  rw [ht]
                  have ha : aloneB [b] = true := by unfold aloneB; exact decide_eq_true hb
                  have hr : rawOf (.mk false [b] []) = [b] := by rw [rawOf_text rfl]; exact if_pos ha
                  refine ⟨by omega, by simp, ?_, hr, ?_⟩
                  · rw [okI_text d rfl, hr]; rfl
                  · rw [wt_eq]; show 1 + 1 + wts [] ≤ _; rw [wts_nil]; omega
                · have hpos := ahead_pos m
                  have ha : ¬ aloneB ((s.drop f).take m) = true := fun e => h3 ⟨by omega, e⟩
                  have hr : rawOf (.mk false ((s.drop f).take m) []) = s.take (f + m) := by
                    rw [rawOf_text rfl]
                    show (if aloneB ((s.drop f).take m) = true then _ else _) = _
                    rw [if_neg ha, take_cut, htk]
                    show headB ((s.drop f).take m).length 128 ++ (s.drop f).take m = _
                    rw [hlen]; rfl
                  refine ⟨by omega, by omega, ?_, hr, ?_⟩
                  · rw [okI_text d rfl, hr, List.length_take]
                    show (([] : List ItemD).isEmpty && _) = true
                    rw [Bool.and_eq_true, decide_eq_true_eq]
                    exact ⟨rfl, by omega⟩
                  · rw [wt_eq]
                    show 1 + ((s.drop f).take m).length + wts [] ≤ _
                    rw [wts_nil, hlen]; omega
            · rename_i hl
              obtain rfl : l = true := by cases l <;> simp_all
              split at h
              · cases h
              · rename_i h3
                split at h
                · rename_i h4
                  split at h
                  · rename_i xs hx
                    cases h
                    rcases hd_back hhd with ⟨_, e, _⟩ | ⟨hf, hfl, hm, htk⟩
                    · cases e
                    · have hpos := ahead_pos m
                      obtain ⟨i1, i2, i3⟩ := ih.2 (d + 1) _ (by omega) xs hx
                      rw [hlen] at i3
                      have hr : rawOf (.mk true [] xs) = s.take (f + m) := by
                        rw [rawOf_list rfl]
                        show headB (raws xs).length 192 ++ raws xs = _
                        rw [i2, hlen, take_cut, htk]; rfl
                      refine ⟨by omega, by omega, ?_, hr, ?_⟩
                      · rw [okI_list d rfl, hr, List.length_take]
                        show (([] : List UInt8).isEmpty && decide (d < 16) && okIs (d + 1) xs && _) = true
                        rw [i1, decide_eq_true (show d < 16 by omega)]
                        exact decide_eq_true (by omega)
                      · rw [wt_eq]
                        show 1 + ([] : List UInt8).length + wts xs ≤ _
                        rw [List.length_nil]; omega
                  · cases h
                · cases h
    refine ⟨hp, fun d s hs xs h => ?_⟩
    rcases Decidable.em (s = []) with e | e
    · subst e
      rw [itemsP_nil] at h
      cases h
      exact ⟨okIs_nil d, raws_nil, by rw [wts_nil]; omega⟩
    · rw [itemsP_cons e] at h
      cases hq : parse d s with
      | error e => rw [hq] at h; cases h
      | ok r =>
        obtain ⟨x, k⟩ := r
        rw [hq] at h
        obtain ⟨p1, p2, p3, p4, p5⟩ := hp d s hs x k hq
        simp only at h
        rw [if_pos (by omega), Option.map_eq_some_iff] at h
        obtain ⟨ys, h1, rfl⟩ := h
        obtain ⟨i1, i2, i3⟩ := ih.2 d (s.drop k) (by rw [List.length_drop]; omega) ys h1
        refine ⟨?_, ?_, ?_⟩
        · rw [okIs_cons, p3, i1]; rfl
        · rw [raws_cons, p4, i2, List.take_append_drop]
        · rw [wts_cons]
          rw [List.length_drop] at i3
          omega
theorem parse_ok {d : Nat} {s : List UInt8} {it : ItemD} {k : Nat} (h : parse d s = .ok (it, k)) : ParseOk d s it k := (parse_items s.length).1 d s (Nat.le_refl _) it k h
theorem itemsP_ok {d : Nat} {s : List UInt8} {xs : List ItemD} (h : itemsP d s = some xs) : okIs d xs = true ∧ raws xs = s ∧ wts xs ≤ 2 * s.length := (parse_items s.length).2 d s (Nat.le_refl _) xs h
theorem rawOf_pos {d : Nat} {it : ItemD} (h : okI d it = true) : 1 ≤ (rawOf it).length := by
  cases hl : it.list with
  | false =>
    rw [rawOf_text hl]
    split
    · rename_i ha; rw [alone_len ha]; omega
    · have := ahead_pos it.text.length
      rw [List.length_append, headB_len]; omega
  | true =>
    have := ahead_pos (raws it.items).length
    rw [rawOf_list hl, List.length_append, headB_len]; omega
theorem items_raw {d : Nat} {xs : List ItemD} (hp : ∀ x ∈ xs, ∀ t, parse d (rawOf x ++ t) = .ok (x, (rawOf x).length)) (h : okIs d xs = true) : itemsP d (raws xs) = some xs := by
  induction xs with
  | nil => rw [raws_nil, itemsP_nil]
  | cons x xs ih =>
    rw [okIs_cons, Bool.and_eq_true] at h
    have h1 := rawOf_pos h.1
    rw [raws_cons, itemsP_cons (fun e => by have e := congrArg List.length e; rw [List.length_append, List.length_nil] at e; omega), hp x (by simp)]
    simp only
    rw [if_pos (by omega), List.drop_left, ih (fun y hy => hp y (List.mem_cons_of_mem _ hy)) h.2]
    rfl
/-- An item's bytes are read as it. -/
theorem parse_raw (it : ItemD) : ∀ d, okI d it = true → ∀ t, parse d (rawOf it ++ t) = .ok (it, (rawOf it).length) := by
  intro d h t
  cases hl : it.list with
  | false =>
    have h0 := h
    rw [okI_text d hl, Bool.and_eq_true, decide_eq_true_eq, List.isEmpty_iff] at h
    obtain ⟨hi, hlen⟩ := h
    have hit : it = .mk false it.text [] := by cases it; cases hl; simp only [ItemD.items] at hi; rw [hi]; rfl
    cases ha : aloneB it.text with
    | true =>
      have hr : rawOf it = it.text := by rw [rawOf_text hl, if_pos ha]
      have h1 := alone_len ha
      obtain ⟨b, eb, hb⟩ : ∃ b, it.text = [b] ∧ b.toNat < 128 := by
        match hq : it.text, h1 with
        | [b], _ => rw [hq] at ha; unfold aloneB at ha; exact ⟨b, rfl, by simpa using ha⟩
      rw [hr, eb, parse]
      have hh : hdOf ([b] ++ t) = .ok (false, 0, 1) := by rw [List.cons_append, hd_cons, if_pos hb]
      rw [hh]
      simp only
      rw [if_neg (by omega), if_neg (by simp), if_pos trivial, if_neg (by omega), hit, eb]
      rfl
    | false =>
      have hr : rawOf it = headB it.text.length 128 ++ it.text := by rw [rawOf_text hl, if_neg (by rw [ha]; simp)]
      rw [hr, List.length_append, headB_len] at hlen
      have hpos := ahead_pos it.text.length
      rw [hr, parse, List.append_assoc]
      have hh := hd_head false it.text.length (by omega) (it.text ++ t)
      rw [show baseOf false = 128 from rfl] at hh
      rw [hh]
      simp only
      have hd : ((headB it.text.length 128 ++ (it.text ++ t)).drop (aheadN it.text.length)).take it.text.length = it.text := by
        rw [← headB_len it.text.length 128, List.drop_left, List.take_left]
      rw [hd, if_neg (by omega), if_neg (by rw [List.length_append, List.length_append, headB_len]; omega), if_pos trivial, if_neg (by rw [ha]; simp), List.length_append, headB_len]
      conv => rhs; rw [hit]
      rfl
  | true =>
    have h0 := h
    rw [okI_list d hl] at h
    simp only [Bool.and_eq_true, decide_eq_true_eq, List.isEmpty_iff] at h
    obtain ⟨⟨⟨ht, hd⟩, hall⟩, hlen⟩ := h
    have hit : it = .mk true [] it.items := by cases it; cases hl; simp only [ItemD.text] at ht; rw [ht]; rfl
    have hr : rawOf it = headB (raws it.items).length 192 ++ raws it.items := rawOf_list hl
    rw [hr, List.length_append, headB_len] at hlen
    have hpos := ahead_pos (raws it.items).length
    have hi := items_raw (fun x hx t => parse_raw x (d + 1) (okIs_mem hall x hx) t) hall
    rw [hr, parse, List.append_assoc]
    have hh := hd_head true (raws it.items).length (by omega) (raws it.items ++ t)
    rw [show baseOf true = 192 from rfl] at hh
    rw [hh]
    simp only
    have hdd : ((headB (raws it.items).length 192 ++ (raws it.items ++ t)).drop (aheadN (raws it.items).length)).take (raws it.items).length = raws it.items := by
      rw [← headB_len (raws it.items).length 192, List.drop_left, List.take_left]
    rw [hdd, hi, if_neg (by omega), if_neg (by rw [List.length_append, List.length_append, headB_len]; omega), if_neg (by simp), if_neg (by omega), dif_pos (by rw [List.length_append, List.length_append, headB_len]; omega), List.length_append, headB_len]
    conv => rhs; rw [hit]
    rfl
termination_by SizeOf.sizeOf it
decreasing_by exact item_lt hx
/-- An item's bytes, cut off. -/
theorem parse_cut (it : ItemD) (h : okI 0 it = true) {j : Nat} (hj : j < (rawOf it).length) : parse 0 ((rawOf it).take j) = .error 7 := by
  have main : ∀ (l : Bool) (body : List UInt8), rawOf it = headB body.length (baseOf l) ++ body → (rawOf it).length ≤ 65536 → parse 0 ((rawOf it).take j) = .error 7 := by
    intro l body hr hlen
    have hlen2 : (rawOf it).length = aheadN body.length + body.length := by rw [hr, List.length_append, headB_len]
    rcases Decidable.em (j < aheadN body.length) with hc | hc
    · have e : (rawOf it).take j = (headB body.length (baseOf l)).take j := by
        rw [hr, List.take_append_of_le_length (by rw [headB_len]; omega)]
      rw [e, parse, hd_cut l body.length (by omega) hc]
    · have e : (rawOf it).take j = headB body.length (baseOf l) ++ body.take (j - aheadN body.length) := by
        rw [hr, List.take_append, List.take_of_length_le (by rw [headB_len]; omega), headB_len]
      have hl2 : ((rawOf it).take j).length = j := by rw [List.length_take]; omega
      rw [parse]
      have hh := hd_head l body.length (by omega) (body.take (j - aheadN body.length))
      rw [← e] at hh
      rw [hh]
      simp only
      rw [if_neg (by omega), if_pos (by omega)]
  cases hl : it.list with
  | false =>
    rw [okI_text 0 hl, Bool.and_eq_true, decide_eq_true_eq] at h
    cases ha : aloneB it.text with
    | true =>
      have hr : rawOf it = it.text := by rw [rawOf_text hl, if_pos ha]
      rw [hr, alone_len ha] at hj
      obtain rfl : j = 0 := by omega
      rw [List.take_zero, parse]; rfl
    | false => exact main false it.text (by rw [rawOf_text hl, if_neg (by rw [ha]; simp)]; rfl) h.2
  | true =>
    rw [okI_list 0 hl] at h
    simp only [Bool.and_eq_true, decide_eq_true_eq] at h
    exact main true (raws it.items) (rawOf_list hl) h.2
end Go.Proofs.Ytpepfhbfooeoeaa.VA
end
section
namespace Go.Proofs.Ytpepfhbfooeoeaa.VA
set_option maxRecDepth 10000
set_option maxHeartbeats 4000000

theorem wi64n (n : Nat) (h : n < 9223372036854775808) : IntKind.i64.wrap (n : Int) = (n : Int) := wi64 (by omega) (by omega)
theorem c_u256_Bits (n : Nat) (hn : n < U) : Contract Try.prog 136 [u n] (.int .i64 (bitsOf n)) := by
  have hc := c_u256_limbs n hn
  obtain ⟨s0, s1, s2, s3, h0, h1, h2, h3, en⟩ := u_limbs n hn
  have hle : bitsOf n ≤ 256 := (bits_le n 256).2 (by unfold U at hn; omega)
  have hb := bits_le n 0
  have hb1 := bits_le n 64
  have hb2 := bits_le n 128
  have hb3 := bits_le n 192
  have hl : limbsOf n = (bitsOf n + 63) / 64 := rfl
  rw [u_eq h0 h1 h2 h3 en] at hc ⊢
  refine contract_of (C := cf 17 [1, 2, 3, 7] (fun _ => [])) (cf_ok _ _ _) (fn := Try.f136) Try.func136 (by kernel_rfl) rfl (by kernel_rfl) (by simp [cf]) (plain1 (u4_plain _ _ _ _)) (by decide) (noCell (by kernel_rfl)) ?_
  simp only [go_sem, seval]
  refine ex_call (by exact hc) ?_
  have d1 := bits_div n 64
  have d2 := bits_div n 128
  have d3 := bits_div n 192
  obtain e | e | e | e | e : limbsOf n = 0 ∨ limbsOf n = 1 ∨ limbsOf n = 2 ∨ limbsOf n = 3 ∨ limbsOf n = 4 := by omega
  · rw [show (limbsOf n : Int) = 0 by omega]
    simp only [go_sem, seval]
    have e0 : (bitsOf n : Int) = 0 := by omega
    rw [e0]
    refine finOne ?_ (fun _ e => by cases e)
    show resOf _ _ [.tmp 2] = _
    simp only [go_sem, seval]
  · rw [show (limbsOf n : Int) = 1 by omega]
    have e0 : n = s0 := by omega
    have w : IntKind.i64.wrap (0 + (bitsOf s0 : Int)) = bitsOf n := by rw [← e0, wi64 (by omega) (by omega)]; omega
    rw [Int.zero_add] at w
    simp only [go_sem, seval, wi0, wi1, wi2, wi3]
    repeat with_reducible refine And.intro (by first | omega | (simp only [List.length_cons, List.length_append, List.length_nil, List.length_map, List.length_take, List.length_drop, List.length_set]; omega)) ?_
    refine ex_call (by exact c_Len64 s0 h0) ?_
    simp only [go_sem, seval, w, Int.zero_add]
    refine finOne ?_ (fun _ e => by cases e)
    show resOf _ _ [.tmp 2] = _
    simp only [go_sem, seval]
  · rw [show (limbsOf n : Int) = 2 by omega]
    have e0 : n / 2 ^ 64 = s1 := by omega
    have w : IntKind.i64.wrap (64 + (bitsOf s1 : Int)) = bitsOf n := by rw [← e0, wi64 (by omega) (by omega)]; omega
    simp only [go_sem, seval, wi0, wi1, wi2, wi3, wi64k]
    repeat with_reducible refine And.intro (by first | omega | (simp only [List.length_cons, List.length_append, List.length_nil, List.length_map, List.length_take, List.length_drop, List.length_set]; omega)) ?_
    refine ex_call (by exact c_Len64 s1 h1) ?_
    simp only [go_sem, seval, w]
    refine finOne ?_ (fun _ e => by cases e)
    show resOf _ _ [.tmp 2] = _
    simp only [go_sem, seval]
  · rw [show (limbsOf n : Int) = 3 by omega]
    have e0 : n / 2 ^ 128 = s2 := by omega
    have w : IntKind.i64.wrap (128 + (bitsOf s2 : Int)) = bitsOf n := by rw [← e0, wi64 (by omega) (by omega)]; omega
    simp only [go_sem, seval, wi0, wi1, wi2, wi3, wi128k]
    repeat with_reducible refine And.intro (by first | omega | (simp only [List.length_cons, List.length_append, List.length_nil, List.length_map, List.length_take, List.length_drop, List.length_set]; omega)) ?_
    refine ex_call (by exact c_Len64 s2 h2) ?_
    simp only [go_sem, seval, w]
    refine finOne ?_ (fun _ e => by cases e)
    show resOf _ _ [.tmp 2] = _
    simp only [go_sem, seval]
  · rw [show (limbsOf n : Int) = 4 by omega]
    have e0 : n / 2 ^ 192 = s3 := by omega
    have w : IntKind.i64.wrap (192 + (bitsOf s3 : Int)) = bitsOf n := by rw [← e0, wi64 (by omega) (by omega)]; omega
    simp only [go_sem, seval, wi0, wi1, wi2, wi3, wi192k]
    repeat with_reducible refine And.intro (by first | omega | (simp only [List.length_cons, List.length_append, List.length_nil, List.length_map, List.length_take, List.length_drop, List.length_set]; omega)) ?_
    refine ex_call (by exact c_Len64 s3 h3) ?_
    simp only [go_sem, seval, w]
    refine finOne ?_ (fun _ e => by cases e)
    show resOf _ _ [.tmp 2] = _
    simp only [go_sem, seval]
theorem limb_at (n j : Nat) (h : j < 4) : ([.int .u64 (lim n 0), .int .u64 (lim n 1), .int .u64 (lim n 2), .int .u64 (lim n 3)] : List AV)[j]? = some (.int .u64 (lim n j)) := by
  obtain rfl | rfl | rfl | rfl : j = 0 ∨ j = 1 ∨ j = 2 ∨ j = 3 := by omega
  all_goals rfl
theorem lim_byte (n i : Nat) : (n / 2 ^ (64 * (i / 8)) % 18446744073709551616) / 2 ^ (i % 8 * 8) % 256 = n / 256 ^ i % 256 := by
  have e1 : 18446744073709551616 = 2 ^ (i % 8 * 8) * 2 ^ (64 - i % 8 * 8) := by
    rw [← Nat.pow_add, show i % 8 * 8 + (64 - i % 8 * 8) = 64 by omega]
  have e2 : (256 : Nat) ^ i = 2 ^ (64 * (i / 8)) * 2 ^ (i % 8 * 8) := by
    rw [← Nat.pow_add, show (256 : Nat) = 2 ^ 8 by decide, ← Nat.pow_mul]
    congr 1; omega
  rw [e1, Nat.mod_mul_right_div_self, Nat.div_div_eq_div_mul, ← e2]
  refine Nat.mod_mod_of_dvd _ ?_
  rw [show (256 : Nat) = 2 ^ 8 by decide]
  exact Nat.pow_dvd_pow 2 (by omega)
def fill (n k i : Nat) : List AV := List.replicate (k - i) (u8 0) ++ (low i n).map u8
theorem fill_len {n k i : Nat} (h : i ≤ k) : (fill n k i).length = k := by unfold fill; simp [low_len]; omega
theorem fill_set (n k i : Nat) (h : i < k) : (fill n k i).set (k - 1 - i) (.int .u8 ((n / 256 ^ i % 256 : Nat) : Int)) = fill n k (i + 1) := by
  unfold fill
  rw [show (AV.int .u8 ((n / 256 ^ i % 256 : Nat) : Int)) = u8 (UInt8.ofNat (n / 256 ^ i)) by unfold u8; rw [UInt8.toNat_ofNat']]
  rw [show k - i = (k - (i + 1)) + 1 by omega, List.replicate_succ', List.append_assoc, List.set_append_right _ _ (by simp; omega)]
  simp only [List.length_replicate]
  rw [show k - 1 - i - (k - (i + 1)) = 0 by omega, low]
  rfl
theorem fill_get {n k i j : Nat} (h : i ≤ k) (hj : j < k) : ∃ e, (fill n k i)[j]? = some e := ⟨_, List.getElem?_eq_getElem (by rw [fill_len h]; exact hj)⟩
theorem fill_zero (n k : Nat) : fill n k 0 = List.replicate k (.int .u8 0) := by unfold fill; simp [low, u8]
theorem fill_end (n k : Nat) : fill n k k = (low k n).map u8 := by unfold fill; simp
theorem limb_byte (n i : Nat) : IntKind.u8.wrap ((lim n (i / 8)).fdiv (2 ^ min (i % 8 * 8) 64)) = ((n / 256 ^ i % 256 : Nat) : Int) := by
  unfold lim
  rw [shr_nat _ _ (by omega), ← lim_byte]
  show (((_ : Nat) : Int) % 256 : Int) = _
  omega
theorem c_u256_Text (n : Nat) (hn : n < U) : Contract Try.prog 125 [u n] (.str (bytesOf n)) := by
  have hle : bitsOf n ≤ 256 := (bits_le n 256).2 (by unfold U at hn; omega)
  have hc := c_u256_Bits n hn
  unfold u at hc ⊢
  refine contract_of (C := cf 34 [1, 2, 3, 4, 11, 12, 13] (fun _ => [])) (cf_ok _ _ _) (fn := Try.f125) Try.func125 (by kernel_rfl) rfl (by kernel_rfl) (by simp [cf]) (plain1 (u4_plain _ _ _ _)) (by decide) (noCell (by kernel_rfl)) ?_
  have w1 : IntKind.i64.wrap ((bitsOf n : Int) + 7) = ((bitsOf n + 7 : Nat) : Int) := by rw [wi64 (by omega) (by omega)]; omega
  have w2 : ((bitsOf n + 7 : Nat) : Int).tdiv 8 = (byteLen n : Int) := rfl
  have hbl : byteLen n ≤ 32 := by unfold byteLen; omega
  have w3 := wi64n (byteLen n) (by omega)
  simp only [go_sem, seval]
  refine ex_call (by exact hc) ?_
  simp only [go_sem, seval, w1, w2, w3, Int.toNat_natCast]
  repeat with_reducible refine And.intro (by first | omega | (simp only [List.length_cons, List.length_append, List.length_nil, List.length_map, List.length_take, List.length_drop, List.length_set]; omega)) ?_
  refine ex_iter [1, 3, 11, 12] (fun i : Nat => ⟨[(1, .var 1 0), (3, .own false 1 (fill n (byteLen n) i)), (11, .int .i64 (byteLen n)), (12, .int .i64 i)], [(1, [.int .u64 (lim n 0), .int .u64 (lim n 1), .int .u64 (lim n 2), .int .u64 (lim n 3)])], []⟩) (fun i => i ≤ byteLen n) (fun i => byteLen n - i) 0 ?_ ?_ ?_
  · simp only [ASt.keep, consIf, keepL, keepV, AV.isBot, List.contains_cons, List.contains_nil, Nat.reduceBEq, Bool.or_false, Bool.false_or, Bool.or_true, Bool.true_or, beq_self_eq_true, Bool.false_eq_true, ↓reduceIte, if_false, if_true]
    rw [fill_zero, List.length_replicate]
    rfl
  · exact Nat.zero_le _
  · intro r i hi next
    simp only [go_sem, seval]
    refine ex_br (fun h => ?_) (fun h => ?_)
    · have hlt : i < byteLen n := by simpa using h
      have wq : (i : Int).tdiv 8 = ((i / 8 : Nat) : Int) := rfl
      have wr : (i : Int).tmod 8 = ((i % 8 : Nat) : Int) := rfl
      have wq2 := wi64n (i / 8) (by omega)
      have wm : IntKind.i64.wrap (((i % 8 : Nat) : Int) * 8) = ((i % 8 * 8 : Nat) : Int) := by rw [wi64 (by omega) (by omega)]; omega
      have ws1 : IntKind.i64.wrap ((byteLen n : Int) - 1) = ((byteLen n - 1 : Nat) : Int) := by rw [wi64 (by omega) (by omega)]; omega
      have ws2 : IntKind.i64.wrap (((byteLen n - 1 : Nat) : Int) - (i : Int)) = ((byteLen n - 1 - i : Nat) : Int) := by rw [wi64 (by omega) (by omega)]; omega
      have hlen : (fill n (byteLen n) i).length = byteLen n := fill_len hi
      obtain ⟨e, he⟩ := fill_get (n := n) hi (show byteLen n - 1 - i < byteLen n by omega)
      simp only [go_sem, seval, wq, wr, wq2, wm, ws1, ws2, hlen, Int.toNat_natCast, limb_at n _ (show i / 8 < 4 by omega)]
      repeat with_reducible refine And.intro (by first | omega | (simp only [List.length_cons, List.length_append, List.length_nil, List.length_map, List.length_take, List.length_drop, List.length_set]; omega)) ?_
      simp only [go_sem, seval, wq, wr, wq2, wm, ws1, ws2, hlen, Int.toNat_natCast, he, limb_byte, fill_set n _ _ hlt]
      refine next (i + 1) _ (by omega) (by omega) ?_
      rw [← wi64_nat i (by omega)]
      simp only [ASt.keep, consIf, keepL, keepV, AV.isBot, List.contains_cons, List.contains_nil, Nat.reduceBEq, Bool.or_false, Bool.false_or, Bool.or_true, Bool.true_or, beq_self_eq_true, Bool.false_eq_true, ↓reduceIte, if_false, if_true]
    · have hge : i = byteLen n := by simp at h; omega
      subst hge
      rw [fill_end]
      simp only [go_sem, seval, asU8_map]
      refine finOne ?_ (fun _ e => by cases e)
      show resOf _ _ [.tmp 2] = _
      simp only [go_sem, seval, bytesOf]
end Go.Proofs.Ytpepfhbfooeoeaa.VA
end
section
namespace Go.Proofs.Ytpepfhbfooeoeaa.VA
set_option maxRecDepth 10000
set_option maxHeartbeats 4000000

theorem low_take {n L j : Nat} (h1 : 1 ≤ j) (h2 : j ≤ L) : (low L n).take (L - j) ++ [UInt8.ofNat (n / 256 ^ (j - 1))] = (low L n).take (L - (j - 1)) := by
  rw [show L - (j - 1) = (L - j) + 1 by omega, List.take_add_one, low_get L n _ (by omega)]
  rw [show L - 1 - (L - j) = j - 1 by omega]; rfl
theorem u8_ofNat (m : Nat) : u8 (UInt8.ofNat m) = .int .u8 ((m % 256 : Nat) : Int) := by unfold u8; rw [UInt8.toNat_ofNat']
theorem c_ref1_Text (n : Nat) (hn : n < U) : Contract Try.prog 111 [u n] (.str (bytesOf n)) := by
  have hle : bitsOf n ≤ 256 := (bits_le n 256).2 (by unfold U at hn; omega)
  have hbl : byteLen n ≤ 32 := by unfold byteLen; omega
  unfold u
  refine contract_of (C := cf 32 [1, 2, 3, 4, 5, 7, 25] (fun _ => [])) (cf_ok _ _ _) (fn := Try.f111) Try.func111 (by kernel_rfl) rfl (by kernel_rfl) (by simp [cf]) (plain1 (u4_plain _ _ _ _)) (by decide) (noCell (by kernel_rfl)) ?_
  simp only [go_sem, seval]
  refine ex_iter [1, 3, 4] (fun j : Nat => ⟨[(1, .var 1 0), (3, .own false 1 (((low (byteLen n) n).take (byteLen n - j)).map u8)), (4, .int .i64 ((j : Int) - 1))], [(1, [.int .u64 (lim n 0), .int .u64 (lim n 1), .int .u64 (lim n 2), .int .u64 (lim n 3)])], []⟩) (fun j => j ≤ 32) (fun j => j) 32 ?_ ?_ ?_
  · simp only [ASt.keep, consIf, keepL, keepV, AV.isBot, List.contains_cons, List.contains_nil, Nat.reduceBEq, Bool.or_false, Bool.false_or, Bool.or_true, Bool.true_or, beq_self_eq_true, Bool.false_eq_true, ↓reduceIte, if_false, if_true]
    rw [show byteLen n - 32 = 0 by omega]
    rfl
  · exact Nat.le_refl _
  · intro r j hj next
    cases j with
    | zero =>
      rw [Nat.sub_zero, List.take_of_length_le (by rw [low_len]; omega), show ((0 : Nat) : Int) - 1 = -1 by decide]
      simp only [go_sem, seval, asU8_map]
      refine finOne ?_ (fun _ e => by cases e)
      show resOf _ _ [.tmp 2] = _
      simp only [go_sem, seval, bytesOf]
    | succ i =>
      rw [show ((i + 1 : Nat) : Int) - 1 = (i : Int) by omega]
      have wq : (i : Int).tdiv 8 = ((i / 8 : Nat) : Int) := rfl
      have wr : (i : Int).tmod 8 = ((i % 8 : Nat) : Int) := rfl
      have wq2 := wi64n (i / 8) (by omega)
      have wm : IntKind.i64.wrap (8 * ((i % 8 : Nat) : Int)) = ((i % 8 * 8 : Nat) : Int) := by rw [wi64 (by omega) (by omega)]; omega
      have e0 : decide ((i : Int) ≥ 0) = true := decide_eq_true (by omega)
      have ws1 : IntKind.i64.wrap ((i : Int) - 1) = (i : Int) - 1 := by rw [wi64 (by omega) (by omega)]
      have hlen : ((low (byteLen n) n).take (byteLen n - (i + 1))).length = byteLen n - (i + 1) := by rw [List.length_take, low_len]; omega
      rcases Decidable.em (i < byteLen n) with hlt | hge
      · have hap := low_take (n := n) (show 1 ≤ i + 1 by omega) (show i + 1 ≤ byteLen n by omega)
        rw [Nat.add_sub_cancel] at hap
        simp only [go_sem, seval, e0, wq, wr, wq2, wm, Int.toNat_natCast, limb_at n _ (show i / 8 < 4 by omega)]
        repeat with_reducible refine And.intro (by first | omega | (simp only [List.length_cons, List.length_append, List.length_nil, List.length_map, List.length_take, List.length_drop, List.length_set]; omega)) ?_
        simp only [go_sem, seval, e0, wq, wr, wq2, wm, Int.toNat_natCast, limb_byte, List.length_map, hlen]
        have hap2 : ((low (byteLen n) n).take (byteLen n - (i + 1))).map u8 ++ [.int .u8 ((n / 256 ^ i % 256 : Nat) : Int)] = ((low (byteLen n) n).take (byteLen n - i)).map u8 := by
          rw [← u8_ofNat, ← hap, List.map_append]; rfl
        refine ex_split (fun hb => ?_) (fun hb => ?_)
        · have hb : n / 256 ^ i % 256 = 0 := by
            generalize n / 256 ^ i % 256 = q at hb
            simpa using hb
          have hpos : decide (((byteLen n - (i + 1) : Nat) : Int) > 0) = true := by
            refine decide_eq_true ?_
            rcases Decidable.em (i + 1 < byteLen n) with h1 | h1
            · omega
            · have h2 := byteLen_ge n (by omega)
              rw [show byteLen n - 1 = i by omega] at h2
              have h3 := byteLen_lt n
              rw [show byteLen n = i + 1 by omega, Nat.pow_succ] at h3
              have h4 : n / 256 ^ i < 256 := Nat.div_lt_of_lt_mul h3
              have h5 : 1 ≤ n / 256 ^ i := (Nat.one_le_div_iff (Nat.pow_pos (by decide))).2 h2
              rw [Nat.mod_eq_of_lt h4] at hb
              omega
          simp only [go_sem, seval, List.length_map, hlen, hpos]
          repeat with_reducible refine And.intro (by first | omega | (simp only [List.length_cons, List.length_append, List.length_nil, List.length_map, List.length_take, List.length_drop, List.length_set]; omega)) ?_
          simp only [go_sem, seval, hap2]
          refine next i _ (by omega) (by omega) ?_
          simp only [ASt.keep, consIf, keepL, keepV, AV.isBot, List.contains_cons, List.contains_nil, Nat.reduceBEq, Bool.or_false, Bool.false_or, Bool.or_true, Bool.true_or, beq_self_eq_true, Bool.false_eq_true, ↓reduceIte, if_false, if_true]
          rw [ws1]
        · simp only [go_sem, seval, List.length_map, hlen]
          repeat with_reducible refine And.intro (by first | omega | (simp only [List.length_cons, List.length_append, List.length_nil, List.length_map, List.length_take, List.length_drop, List.length_set]; omega)) ?_
          simp only [go_sem, seval, hap2]
          refine next i _ (by omega) (by omega) ?_
          simp only [ASt.keep, consIf, keepL, keepV, AV.isBot, List.contains_cons, List.contains_nil, Nat.reduceBEq, Bool.or_false, Bool.false_or, Bool.or_true, Bool.true_or, beq_self_eq_true, Bool.false_eq_true, ↓reduceIte, if_false, if_true]
          rw [ws1]
      · have hz : ((n / 256 ^ i % 256 : Nat) : Int) = 0 := by rw [Nat.div_eq_of_lt ((byteLen_le n i).1 (by omega))]; rfl
        have hz2 : byteLen n - i = 0 := by omega
        rw [show byteLen n - (i + 1) = 0 by omega, List.take_zero]
        simp only [go_sem, seval, e0, wq, wr, wq2, wm, Int.toNat_natCast, limb_at n _ (show i / 8 < 4 by omega)]
        repeat with_reducible refine And.intro (by first | omega | (simp only [List.length_cons, List.length_append, List.length_nil, List.length_map, List.length_take, List.length_drop, List.length_set]; omega)) ?_
        simp only [go_sem, seval, e0, wq, wr, wq2, wm, Int.toNat_natCast, limb_byte, hz, Int.cast_ofNat_Int]
        refine next i _ (by omega) (by omega) ?_
        simp only [ASt.keep, consIf, keepL, keepV, AV.isBot, List.contains_cons, List.contains_nil, Nat.reduceBEq, Bool.or_false, Bool.false_or, Bool.or_true, Bool.true_or, beq_self_eq_true, Bool.false_eq_true, ↓reduceIte, if_false, if_true]
        rw [ws1, hz2]
        rfl
end Go.Proofs.Ytpepfhbfooeoeaa.VA
end
section
namespace Go.Proofs.Ytpepfhbfooeoeaa.VA
set_option maxRecDepth 10000
set_option maxHeartbeats 4000000

def limN (n i : Nat) : Nat := n / 2 ^ (64 * i) % 18446744073709551616
theorem lim_limN (n i : Nat) : lim n i = (limN n i : Int) := rfl
theorem limN_take (m b i j : Nat) (hm : m < 256 ^ i) (hb : b < 256) : limN (m + b * 256 ^ i) j = if j = i / 8 then limN m j ||| (b * 2 ^ (i % 8 * 8)) else limN m j := by
  have e256 : ∀ k, (256 : Nat) ^ k = 2 ^ (8 * k) := fun k => by rw [show (256 : Nat) = 2 ^ 8 by decide, ← Nat.pow_mul]
  have hM : (18446744073709551616 : Nat) = 2 ^ 64 := by decide
  unfold limN
  split
  · rename_i e
    subst e
    have e1 : (256 : Nat) ^ i = 2 ^ (64 * (i / 8)) * 2 ^ (i % 8 * 8) := by
      rw [e256, ← Nat.pow_add]; congr 1; omega
    have hB : 2 ^ (i % 8 * 8) * 256 ≤ 2 ^ 64 := by
      rw [show (256 : Nat) = 2 ^ 8 by decide, ← Nat.pow_add]
      exact Nat.pow_le_pow_right (by decide) (by omega)
    rw [e1] at hm ⊢
    generalize 2 ^ (64 * (i / 8)) = A at *
    have hA : 0 < A := by
      rcases Nat.eq_zero_or_pos A with h | h
      · subst h; simp at hm
      · exact h
    have hq : m / A < 2 ^ (i % 8 * 8) := Nat.div_lt_of_lt_mul hm
    rw [show b * (A * 2 ^ (i % 8 * 8)) = A * (2 ^ (i % 8 * 8) * b) by rw [Nat.mul_comm b, Nat.mul_assoc], Nat.add_mul_div_left _ _ hA]
    have hs : 2 ^ (i % 8 * 8) * b + m / A < 2 ^ 64 := by
      have : 2 ^ (i % 8 * 8) * (b + 1) ≤ 2 ^ (i % 8 * 8) * 256 := Nat.mul_le_mul_left _ hb
      rw [Nat.mul_add, Nat.mul_one] at this
      omega
    have hs2 : m / A + 2 ^ (i % 8 * 8) * b < 2 ^ 64 := by rw [Nat.add_comm]; exact hs
    have hq2 : m / A < 2 ^ 64 := by
      generalize 2 ^ (i % 8 * 8) = X at *
      omega
    rw [hM, Nat.mod_eq_of_lt hs2, Nat.mod_eq_of_lt hq2, Nat.add_comm, Nat.two_pow_add_eq_or_of_lt hq, Nat.or_comm, Nat.mul_comm b]
  · rename_i e
    rcases Nat.lt_or_gt_of_ne e with h | h
    · have e1 : (256 : Nat) ^ i = 2 ^ (64 * j) * (2 ^ 64 * 2 ^ (8 * i - 64 * j - 64)) := by
        rw [e256, ← Nat.pow_add, ← Nat.pow_add]; congr 1; omega
      rw [e1, show b * (2 ^ (64 * j) * (2 ^ 64 * 2 ^ (8 * i - 64 * j - 64))) = 2 ^ (64 * j) * (2 ^ 64 * (2 ^ (8 * i - 64 * j - 64) * b)) by
        rw [Nat.mul_comm b, Nat.mul_assoc, Nat.mul_assoc], Nat.add_mul_div_left _ _ (Nat.two_pow_pos _), hM, Nat.add_mul_mod_self_left]
    · have h1 : (256 : Nat) ^ (i + 1) ≤ 2 ^ (64 * j) := by
        rw [e256]; exact Nat.pow_le_pow_right (by decide) (by omega)
      rw [Nat.pow_succ] at h1
      have h2 : (b + 1) * 256 ^ i ≤ 256 * 256 ^ i := Nat.mul_le_mul_right _ hb
      rw [Nat.add_mul, Nat.one_mul] at h2
      rw [Nat.div_eq_of_lt (by omega), Nat.div_eq_of_lt (by omega)]
theorem limN_lt (n i : Nat) : limN n i < 18446744073709551616 := Nat.mod_lt _ (by decide)
theorem or_natU {x y : Nat} (hx : x < 18446744073709551616) (hy : y < 18446744073709551616) : IntKind.u64.wrap (BitVec.ofInt 64 (x : Int) ||| BitVec.ofInt 64 (y : Int)).toNat = ((x ||| y : Nat) : Int) := by
  rw [ofInt_nat, ofInt_nat, BitVec.toNat_or, BitVec.toNat_ofNat, BitVec.toNat_ofNat, Nat.mod_eq_of_lt hx, Nat.mod_eq_of_lt hy]
  have : x ||| y < 2 ^ 64 := Nat.or_lt_two_pow hx hy
  exact wu64 (by omega) (by omega)
theorem or_nat2 {x y : Nat} (hx : x < 18446744073709551616) (hy : y < 18446744073709551616) : IntKind.u64.wrap (@BitVec.toNat 64 (@HOr.hOr (BitVec 64) (BitVec 64) (BitVec 64) (@instHOrOfOrOp (BitVec IntKind.u64.bits) (@BitVec.instOrOp IntKind.u64.bits)) (BitVec.ofInt 64 (x : Int)) (BitVec.ofInt 64 (y : Int)))) = ((x ||| y : Nat) : Int) := or_natU hx hy
def limbL (n : Nat) : List AV := [.int .u64 (lim n 0), .int .u64 (lim n 1), .int .u64 (lim n 2), .int .u64 (lim n 3)]
theorem limbL_get (n j : Nat) (h : j < 4) : (limbL n)[j]? = some (.int .u64 (limN n j)) := limb_at n j h
theorem limbL_set (m b i : Nat) (hm : m < 256 ^ i) (hb : b < 256) (hi : i < 32) : (limbL m).set (i / 8) (.int .u64 ((limN m (i / 8) ||| (b * 2 ^ (i % 8 * 8)) : Nat) : Int)) = limbL (m + b * 256 ^ i) := by
  have h := fun j => limN_take m b i j hm hb
  unfold limbL
  rw [lim_limN (m + _) 0, lim_limN (m + _) 1, lim_limN (m + _) 2, lim_limN (m + _) 3, h 0, h 1, h 2, h 3]
  obtain e | e | e | e : i / 8 = 0 ∨ i / 8 = 1 ∨ i / 8 = 2 ∨ i / 8 = 3 := by omega
  all_goals rw [e]; rfl
theorem limbL_zero : limbL 0 = [.int .u64 0, .int .u64 0, .int .u64 0, .int .u64 0] := by unfold limbL; simp only [lim, Nat.zero_div, Nat.zero_mod]; rfl
theorem limbL_len (n : Nat) : (limbL n).length = 4 := rfl
theorem limbL_put (m b i : Nat) (hm : m < 256 ^ i) (hb : b < 256) (hi : i < 32) :
    (limbL m).take (i / 8) ++ [.int .u64 ((limN m (i / 8) ||| (b * 2 ^ (i % 8 * 8)) : Nat) : Int)] ++ (limbL m).drop (i / 8 + 1) = limbL (m + b * 256 ^ i) := by
  rw [← limbL_set m b i hm hb hi, List.set_eq_take_append_cons_drop, if_pos (by rw [limbL_len]; omega), List.append_assoc]; rfl
theorem shl_byte {b i : Nat} (hb : b < 256) : b * 2 ^ (i % 8 * 8) < 18446744073709551616 := by
  have h1 : (b + 1) * 2 ^ (i % 8 * 8) ≤ 256 * 2 ^ (i % 8 * 8) := Nat.mul_le_mul_right _ hb
  have h2 : 256 * 2 ^ (i % 8 * 8) ≤ 2 ^ 64 := by
    rw [show (256 : Nat) = 2 ^ 8 by decide, ← Nat.pow_add]
    exact Nat.pow_le_pow_right (by decide) (by omega)
  rw [Nat.add_mul, Nat.one_mul] at h1
  have h3 : 0 < 2 ^ (i % 8 * 8) := Nat.two_pow_pos _
  generalize 2 ^ (i % 8 * 8) = X at *
  generalize b * X = Y at *
  omega
theorem shl_nat {b i : Nat} (hb : b < 256) : IntKind.u64.wrap ((b : Int) * 2 ^ (min (i % 8 * 8) 64)) = ((b * 2 ^ (i % 8 * 8) : Nat) : Int) := by
  rw [Nat.min_eq_left (by omega)]
  have h := shl_byte (i := i) hb
  have e : (b : Int) * 2 ^ (i % 8 * 8) = ((b * 2 ^ (i % 8 * 8) : Nat) : Int) := by push_cast; rfl
  rw [e]
  exact wu64 (by omega) (by omega)
def takeU (s : List UInt8) : Nat × Bool := if s.length > 32 ∨ s.head? = some 0 then (0, false) else (numOf s, true)
theorem u_zero : u 0 = .agg [.int .u64 (0 : Int), .int .u64 (0 : Int), .int .u64 (0 : Int), .int .u64 (0 : Int)] := u_small 0 (by decide)
theorem numOf_small {s : List UInt8} (h : s.length ≤ 32) : numOf s < U := by
  have h1 := numOf_lt s
  have : (256 : Nat) ^ s.length ≤ 256 ^ 32 := Nat.pow_le_pow_right (by decide) h
  have : (256 : Nat) ^ 32 = U := by unfold U; decide
  omega
theorem takeU_lt (s : List UInt8) : (takeU s).1 < U := by
  unfold takeU
  split
  · unfold U; decide
  · rename_i h
    exact numOf_small (by omega)
theorem u8z : (((0 : UInt8).toNat : Int) == 0) = true := by decide
end Go.Proofs.Ytpepfhbfooeoeaa.VA
end
section
namespace Go.Proofs.Ytpepfhbfooeoeaa.VA
set_option maxRecDepth 10000
set_option maxHeartbeats 4000000

noncomputable instance : DecidableEq ItemD := fun _ _ => Classical.propDecidable _
def itemsAv (xs : List ItemD) : AV := .sl false 3 (xs.map ItemD.av)
theorem itemsAv_plain (xs : List ItemD) : Plain (itemsAv xs) := .sl 3 _ fun c hc => by
  obtain ⟨x, _, rfl⟩ := List.mem_map.1 hc
  exact x.plain
theorem decide_congr {p q : Prop} [Decidable p] [Decidable q] (h : p ↔ q) : decide p = decide q := by simp [h]
/-- A question of the laws: an item, bytes. -/
def askAv (it : ItemD) (s : List UInt8) : AV := .agg (it.cells ++ [.str s])
theorem askAv_plain (it : ItemD) (s : List UInt8) : Plain (askAv it s) := .agg _ fun c hc => by
  rcases List.mem_append.1 hc with hc | hc
  · have := it.plain
    rw [it.av_eq] at this
    cases this with | agg _ h => exact h c hc
  · rcases List.mem_cons.1 hc with rfl | hc
    · exact .str _
    · cases hc
def heavyI (it : ItemD) (s : List UInt8) : Bool := decide (wtOf it > 70000) || decide (dpOf it > 40) || decide (s.length > 70000)
end Go.Proofs.Ytpepfhbfooeoeaa.VA
end
section
namespace Go.Proofs.Ytpepfhbfooeoeaa.VA
set_option maxRecDepth 10000
set_option maxHeartbeats 4000000

theorem lt_U {n : Nat} (h : n < 9223372036854775808) : n < U := by unfold U; omega
theorem c_item_size (n : Nat) (h : n < 9223372036854775808) : Contract Try.prog 149 [.int .i64 n] (.str (bytesOf n)) := by
  have h1 := c_u256_Of n h
  have h2 := c_u256_Text n (lt_U h)
  rw [u_small n (by omega)] at h1 h2
  refine contract_of (C := cf 12 [0, 2, 3] (fun _ => [])) (cf_ok _ _ _) (fn := Try.f149) Try.func149 (by kernel_rfl) rfl (by kernel_rfl) (by simp [cf]) (plain1 (.int _ _)) (by decide) (noCell (by kernel_rfl)) ?_
  simp only [go_sem, ↓reduceIte, Nat.reduceLT, Nat.reduceLeDiff, Nat.reduceAdd, Nat.reduceSub, Nat.reduceMul, Nat.reduceEqDiff, Nat.reduceBEq, Nat.reduceMod, Nat.reduceDiv, Int.reduceToNat, reduceCtorEq, Int.reduceLT, Int.reduceLE, Int.reduceGT, Int.reduceGE, Int.reduceAdd, Int.reduceSub, Int.reduceMul, Int.reduceNeg, Int.reduceEq, Int.reduceNe, Int.reduceBNe, Int.reduceBEq, Int.reduceDiv]
  refine ex_call (by exact h1) ?_
  simp only [go_sem, ↓reduceIte, Nat.reduceLT, Nat.reduceLeDiff, Nat.reduceAdd, Nat.reduceSub, Nat.reduceMul, Nat.reduceEqDiff, Nat.reduceBEq, Nat.reduceMod, Nat.reduceDiv, Int.reduceToNat, reduceCtorEq, Int.reduceLT, Int.reduceLE, Int.reduceGT, Int.reduceGE, Int.reduceAdd, Int.reduceSub, Int.reduceMul, Int.reduceNeg, Int.reduceEq, Int.reduceNe, Int.reduceBNe, Int.reduceBEq, Int.reduceDiv]
  refine ex_call (by exact h2) ?_
  simp only [go_sem, ↓reduceIte, Nat.reduceLT, Nat.reduceLeDiff, Nat.reduceAdd, Nat.reduceSub, Nat.reduceMul, Nat.reduceEqDiff, Nat.reduceBEq, Nat.reduceMod, Nat.reduceDiv, Int.reduceToNat, reduceCtorEq, Int.reduceLT, Int.reduceLE, Int.reduceGT, Int.reduceGE, Int.reduceAdd, Int.reduceSub, Int.reduceMul, Int.reduceNeg, Int.reduceEq, Int.reduceNe, Int.reduceBNe, Int.reduceBEq, Int.reduceDiv]
  refine finOne ?_ (fun _ e => by cases e)
  show resOf _ _ [.tmp 2] = _
  simp only [go_sem, ↓reduceIte, Nat.reduceLT, Nat.reduceLeDiff, Nat.reduceAdd, Nat.reduceSub, Nat.reduceMul, Nat.reduceEqDiff, Nat.reduceBEq, Nat.reduceMod, Nat.reduceDiv, Int.reduceToNat, reduceCtorEq, Int.reduceLT, Int.reduceLE, Int.reduceGT, Int.reduceGE, Int.reduceAdd, Int.reduceSub, Int.reduceMul, Int.reduceNeg, Int.reduceEq, Int.reduceNe, Int.reduceBNe, Int.reduceBEq, Int.reduceDiv]
theorem bytesOf_le {n : Nat} (h : n < 1099511627776) : (bytesOf n).length ≤ 5 := by rw [bytesOf_len]; exact byteLen_small h
theorem c_item_ahead (n : Nat) (h : n < 1099511627776) : Contract Try.prog 146 [.int .i64 n] (.int .i64 (aheadN n)) := by
  have hb := byteLen_small h
  refine contract_of (C := cf 9 [0, 2, 4] (fun _ => [])) (cf_ok _ _ _) (fn := Try.f146) Try.func146 (by kernel_rfl) rfl (by kernel_rfl) (by simp [cf]) (plain1 (.int _ _)) (by decide) (noCell (by kernel_rfl)) ?_
  simp only [go_sem, ↓reduceIte, Nat.reduceLT, Nat.reduceLeDiff, Nat.reduceAdd, Nat.reduceSub, Nat.reduceMul, Nat.reduceEqDiff, Nat.reduceBEq, Nat.reduceMod, Nat.reduceDiv, Int.reduceToNat, reduceCtorEq, Int.reduceLT, Int.reduceLE, Int.reduceGT, Int.reduceGE, Int.reduceAdd, Int.reduceSub, Int.reduceMul, Int.reduceNeg, Int.reduceEq, Int.reduceNe, Int.reduceBNe, Int.reduceBEq, Int.reduceDiv]
  unfold aheadN
  refine ex_br (fun e => ?_) (fun e => ?_)
  · have e : n ≤ 55 := by simp at e; omega
    rw [if_pos e]
    simp only [go_sem, ↓reduceIte, Nat.reduceLT, Nat.reduceLeDiff, Nat.reduceAdd, Nat.reduceSub, Nat.reduceMul, Nat.reduceEqDiff, Nat.reduceBEq, Nat.reduceMod, Nat.reduceDiv, Int.reduceToNat, reduceCtorEq, Int.reduceLT, Int.reduceLE, Int.reduceGT, Int.reduceGE, Int.reduceAdd, Int.reduceSub, Int.reduceMul, Int.reduceNeg, Int.reduceEq, Int.reduceNe, Int.reduceBNe, Int.reduceBEq, Int.reduceDiv]
    refine finOne ?_ (fun _ e => by cases e)
    show resOf _ _ [.tmp 2] = _
    simp only [go_sem, ↓reduceIte, Nat.reduceLT, Nat.reduceLeDiff, Nat.reduceAdd, Nat.reduceSub, Nat.reduceMul, Nat.reduceEqDiff, Nat.reduceBEq, Nat.reduceMod, Nat.reduceDiv, Int.reduceToNat, reduceCtorEq, Int.reduceLT, Int.reduceLE, Int.reduceGT, Int.reduceGE, Int.reduceAdd, Int.reduceSub, Int.reduceMul, Int.reduceNeg, Int.reduceEq, Int.reduceNe, Int.reduceBNe, Int.reduceBEq, Int.reduceDiv]
    rfl
  · have e : ¬ n ≤ 55 := by simp at e; omega
    rw [if_neg e]
    have w : IntKind.i64.wrap (1 + (byteLen n : Int)) = ((1 + byteLen n : Nat) : Int) := by rw [wi64 (by omega) (by omega)]; omega
    simp only [go_sem, ↓reduceIte, Nat.reduceLT, Nat.reduceLeDiff, Nat.reduceAdd, Nat.reduceSub, Nat.reduceMul, Nat.reduceEqDiff, Nat.reduceBEq, Nat.reduceMod, Nat.reduceDiv, Int.reduceToNat, reduceCtorEq, Int.reduceLT, Int.reduceLE, Int.reduceGT, Int.reduceGE, Int.reduceAdd, Int.reduceSub, Int.reduceMul, Int.reduceNeg, Int.reduceEq, Int.reduceNe, Int.reduceBNe, Int.reduceBEq, Int.reduceDiv]
    refine ex_call (by exact c_item_size n (by omega)) ?_
    simp only [go_sem, ↓reduceIte, Nat.reduceLT, Nat.reduceLeDiff, Nat.reduceAdd, Nat.reduceSub, Nat.reduceMul, Nat.reduceEqDiff, Nat.reduceBEq, Nat.reduceMod, Nat.reduceDiv, Int.reduceToNat, reduceCtorEq, Int.reduceLT, Int.reduceLE, Int.reduceGT, Int.reduceGE, Int.reduceAdd, Int.reduceSub, Int.reduceMul, Int.reduceNeg, Int.reduceEq, Int.reduceNe, Int.reduceBNe, Int.reduceBEq, Int.reduceDiv, bytesOf_len, w]
    refine finOne ?_ (fun _ e => by cases e)
    show resOf _ _ [.tmp 2] = _
    simp only [go_sem, ↓reduceIte, Nat.reduceLT, Nat.reduceLeDiff, Nat.reduceAdd, Nat.reduceSub, Nat.reduceMul, Nat.reduceEqDiff, Nat.reduceBEq, Nat.reduceMod, Nat.reduceDiv, Int.reduceToNat, reduceCtorEq, Int.reduceLT, Int.reduceLE, Int.reduceGT, Int.reduceGE, Int.reduceAdd, Int.reduceSub, Int.reduceMul, Int.reduceNeg, Int.reduceEq, Int.reduceNe, Int.reduceBNe, Int.reduceBEq, Int.reduceDiv]
theorem alone_eq (s : List UInt8) : aloneB s = (decide (s.length = 1) && decide ((s[0]?.getD 0).toNat < 128)) := by
  match s with
  | [] => rfl
  | [b] => simp [aloneB]
  | a :: b :: t => simp [aloneB]
theorem c_item_alone (s : List UInt8) (h : s.length ≤ 9223372036854775807) : Contract Try.prog 140 [.str s] (.bool (aloneB s)) := by
  refine contract_of (C := cf 11 [0, 2] (fun _ => [])) (cf_ok _ _ _) (fn := Try.f140) Try.func140 (by kernel_rfl) rfl (by kernel_rfl) (by simp [cf]) (plain1 (.str _)) (by decide) (noCell (by kernel_rfl)) ?_
  simp only [go_sem, ↓reduceIte, Nat.reduceLT, Nat.reduceLeDiff, Nat.reduceAdd, Nat.reduceSub, Nat.reduceMul, Nat.reduceEqDiff, Nat.reduceBEq, Nat.reduceMod, Nat.reduceDiv, Int.reduceToNat, reduceCtorEq, Int.reduceLT, Int.reduceLE, Int.reduceGT, Int.reduceGE, Int.reduceAdd, Int.reduceSub, Int.reduceMul, Int.reduceNeg, Int.reduceEq, Int.reduceNe, Int.reduceBNe, Int.reduceBEq, Int.reduceDiv]
  rcases Decidable.em (s.length = 1) with e | e
  · match s, e with
    | [b], _ =>
      have hb : decide ((b.toNat : Int) < 128) = aloneB [b] := by unfold aloneB; exact decide_congr (by omega)
      simp only [go_sem, ↓reduceIte, Nat.reduceLT, Nat.reduceLeDiff, Nat.reduceAdd, Nat.reduceSub, Nat.reduceMul, Nat.reduceEqDiff, Nat.reduceBEq, Nat.reduceMod, Nat.reduceDiv, Int.reduceToNat, reduceCtorEq, Int.reduceLT, Int.reduceLE, Int.reduceGT, Int.reduceGE, Int.reduceAdd, Int.reduceSub, Int.reduceMul, Int.reduceNeg, Int.reduceEq, Int.reduceNe, Int.reduceBNe, Int.reduceBEq, Int.reduceDiv, hb, Int.cast_ofNat_Int]
      refine finOne ?_ (fun _ e => by cases e)
      show resOf _ _ [.tmp 2] = _
      simp only [go_sem, ↓reduceIte, Nat.reduceLT, Nat.reduceLeDiff, Nat.reduceAdd, Nat.reduceSub, Nat.reduceMul, Nat.reduceEqDiff, Nat.reduceBEq, Nat.reduceMod, Nat.reduceDiv, Int.reduceToNat, reduceCtorEq, Int.reduceLT, Int.reduceLE, Int.reduceGT, Int.reduceGE, Int.reduceAdd, Int.reduceSub, Int.reduceMul, Int.reduceNeg, Int.reduceEq, Int.reduceNe, Int.reduceBNe, Int.reduceBEq, Int.reduceDiv]
  · have e1 : ((s.length : Int) == 1) = false := by simpa using (by omega : ¬ (s.length : Int) = 1)
    have e2 : aloneB s = false := by rw [alone_eq, decide_eq_false e]; rfl
    rw [e1, e2]
    simp only [go_sem, ↓reduceIte, Nat.reduceLT, Nat.reduceLeDiff, Nat.reduceAdd, Nat.reduceSub, Nat.reduceMul, Nat.reduceEqDiff, Nat.reduceBEq, Nat.reduceMod, Nat.reduceDiv, Int.reduceToNat, reduceCtorEq, Int.reduceLT, Int.reduceLE, Int.reduceGT, Int.reduceGE, Int.reduceAdd, Int.reduceSub, Int.reduceMul, Int.reduceNeg, Int.reduceEq, Int.reduceNe, Int.reduceBNe, Int.reduceBEq, Int.reduceDiv]
    refine finOne ?_ (fun _ e => by cases e)
    show resOf _ _ [.tmp 2] = _
    simp only [go_sem, ↓reduceIte, Nat.reduceLT, Nat.reduceLeDiff, Nat.reduceAdd, Nat.reduceSub, Nat.reduceMul, Nat.reduceEqDiff, Nat.reduceBEq, Nat.reduceMod, Nat.reduceDiv, Int.reduceToNat, reduceCtorEq, Int.reduceLT, Int.reduceLE, Int.reduceGT, Int.reduceGE, Int.reduceAdd, Int.reduceSub, Int.reduceMul, Int.reduceNeg, Int.reduceEq, Int.reduceNe, Int.reduceBNe, Int.reduceBEq, Int.reduceDiv]
theorem u8_small {m : Nat} (h : m < 256) : u8 (UInt8.ofNat m) = .int .u8 (m : Int) := by rw [u8_ofNat, Nat.mod_eq_of_lt h]
theorem c_item_front (bs : List UInt8) (base n : Nat) (hb : base ≤ 192) (hn : n < 1099511627776) (hbs : bs.length ≤ 1099511627776) :
    Contract Try.prog 139 [.own false 1 (bs.map u8), .int .i64 base, .int .i64 n] (.own false 1 ((bs ++ headB n base).map u8)) := by
  have hbl := byteLen_small hn
  refine contract_of (C := cf 30 [0, 1, 2, 6, 7, 9] (fun _ => [])) (cf_ok _ _ _) (fn := Try.f139) Try.func139 (by kernel_rfl) rfl (by kernel_rfl) (by simp [cf]) (plain3 (.own _ _ _ (fun c hc => by obtain ⟨x, _, rfl⟩ := List.mem_map.1 hc; exact .int _ _)) (.int _ _) (.int _ _)) (by decide) (noCell (by kernel_rfl)) ?_
  simp only [go_sem, ↓reduceIte, Nat.reduceLT, Nat.reduceLeDiff, Nat.reduceAdd, Nat.reduceSub, Nat.reduceMul, Nat.reduceEqDiff, Nat.reduceBEq, Nat.reduceMod, Nat.reduceDiv, Int.reduceToNat, reduceCtorEq, Int.reduceLT, Int.reduceLE, Int.reduceGT, Int.reduceGE, Int.reduceAdd, Int.reduceSub, Int.reduceMul, Int.reduceNeg, Int.reduceEq, Int.reduceNe, Int.reduceBNe, Int.reduceBEq, Int.reduceDiv]
  unfold headB
  refine ex_br (fun e => ?_) (fun e => ?_)
  · have e : n ≤ 55 := by simp at e; omega
    rw [if_pos e]
    have w : IntKind.i64.wrap ((base : Int) + (n : Int)) = ((base + n : Nat) : Int) := by rw [wi64 (by omega) (by omega)]; omega
    have w2 : IntKind.u8.wrap ((base + n : Nat) : Int) = ((base + n : Nat) : Int) := wu8 (by omega) (by omega)
    simp only [go_sem, ↓reduceIte, Nat.reduceLT, Nat.reduceLeDiff, Nat.reduceAdd, Nat.reduceSub, Nat.reduceMul, Nat.reduceEqDiff, Nat.reduceBEq, Nat.reduceMod, Nat.reduceDiv, Int.reduceToNat, reduceCtorEq, Int.reduceLT, Int.reduceLE, Int.reduceGT, Int.reduceGE, Int.reduceAdd, Int.reduceSub, Int.reduceMul, Int.reduceNeg, Int.reduceEq, Int.reduceNe, Int.reduceBNe, Int.reduceBEq, Int.reduceDiv, w, w2, List.length_map]
    repeat with_reducible refine And.intro (by first | omega | (simp only [List.length_cons, List.length_append, List.length_nil, List.length_map, List.length_take, List.length_drop, List.length_set]; omega)) ?_
    refine finOne ?_ (fun _ e => by cases e)
    show resOf _ _ [.tmp 6] = _
    rw [List.map_append, List.map_cons, u8_small (by omega)]
    simp only [go_sem, ↓reduceIte, Nat.reduceLT, Nat.reduceLeDiff, Nat.reduceAdd, Nat.reduceSub, Nat.reduceMul, Nat.reduceEqDiff, Nat.reduceBEq, Nat.reduceMod, Nat.reduceDiv, Int.reduceToNat, reduceCtorEq, Int.reduceLT, Int.reduceLE, Int.reduceGT, Int.reduceGE, Int.reduceAdd, Int.reduceSub, Int.reduceMul, Int.reduceNeg, Int.reduceEq, Int.reduceNe, Int.reduceBNe, Int.reduceBEq, Int.reduceDiv]
  · have e : ¬ n ≤ 55 := by simp at e; omega
    rw [if_neg e]
    have w : IntKind.i64.wrap ((base : Int) + 55) = ((base + 55 : Nat) : Int) := by rw [wi64 (by omega) (by omega)]; omega
    have w2 : IntKind.i64.wrap (((base + 55 : Nat) : Int) + (byteLen n : Int)) = ((base + 55 + byteLen n : Nat) : Int) := by rw [wi64 (by omega) (by omega)]; omega
    have w3 : IntKind.u8.wrap ((base + 55 + byteLen n : Nat) : Int) = ((base + 55 + byteLen n : Nat) : Int) := wu8 (by omega) (by omega)
    simp only [go_sem, ↓reduceIte, Nat.reduceLT, Nat.reduceLeDiff, Nat.reduceAdd, Nat.reduceSub, Nat.reduceMul, Nat.reduceEqDiff, Nat.reduceBEq, Nat.reduceMod, Nat.reduceDiv, Int.reduceToNat, reduceCtorEq, Int.reduceLT, Int.reduceLE, Int.reduceGT, Int.reduceGE, Int.reduceAdd, Int.reduceSub, Int.reduceMul, Int.reduceNeg, Int.reduceEq, Int.reduceNe, Int.reduceBNe, Int.reduceBEq, Int.reduceDiv]
    refine ex_call (by exact c_item_size n (by omega)) ?_
    simp only [go_sem, ↓reduceIte, Nat.reduceLT, Nat.reduceLeDiff, Nat.reduceAdd, Nat.reduceSub, Nat.reduceMul, Nat.reduceEqDiff, Nat.reduceBEq, Nat.reduceMod, Nat.reduceDiv, Int.reduceToNat, reduceCtorEq, Int.reduceLT, Int.reduceLE, Int.reduceGT, Int.reduceGE, Int.reduceAdd, Int.reduceSub, Int.reduceMul, Int.reduceNeg, Int.reduceEq, Int.reduceNe, Int.reduceBNe, Int.reduceBEq, Int.reduceDiv, bytesOf_len, w, w2, w3, List.length_map]
    repeat with_reducible refine And.intro (by first | omega | (simp only [List.length_cons, List.length_append, List.length_nil, List.length_map, List.length_take, List.length_drop, List.length_set]; omega)) ?_
    refine finOne ?_ (fun _ e => by cases e)
    show resOf _ _ [.tmp 6] = _
    rw [List.map_append, List.map_cons, u8_small (by omega)]
    simp only [go_sem, ↓reduceIte, Nat.reduceLT, Nat.reduceLeDiff, Nat.reduceAdd, Nat.reduceSub, Nat.reduceMul, Nat.reduceEqDiff, Nat.reduceBEq, Nat.reduceMod, Nat.reduceDiv, Int.reduceToNat, reduceCtorEq, Int.reduceLT, Int.reduceLE, Int.reduceGT, Int.reduceGE, Int.reduceAdd, Int.reduceSub, Int.reduceMul, Int.reduceNeg, Int.reduceEq, Int.reduceNe, Int.reduceBNe, Int.reduceBEq, Int.reduceDiv, List.append_assoc]
theorem c_ref4_head (n base : Nat) (hb : base ≤ 192) (hn : n < 1099511627776) : Contract Try.prog 141 [.int .i64 n, .int .i64 base] (.str (headB n base)) := by
  have hbl := byteLen_small hn
  have h1 := c_ref1_Of n (by omega)
  have h2 := c_ref1_Text n (lt_U (by omega))
  rw [u_small n (by omega)] at h1 h2
  refine contract_of (C := cf 27 [0, 1, 4, 5, 7] (fun _ => [])) (cf_ok _ _ _) (fn := Try.f141) Try.func141 (by kernel_rfl) rfl (by kernel_rfl) (by simp [cf]) (plain2 (.int _ _) (.int _ _)) (by decide) (noCell (by kernel_rfl)) ?_
  simp only [go_sem, ↓reduceIte, Nat.reduceLT, Nat.reduceLeDiff, Nat.reduceAdd, Nat.reduceSub, Nat.reduceMul, Nat.reduceEqDiff, Nat.reduceBEq, Nat.reduceMod, Nat.reduceDiv, Int.reduceToNat, reduceCtorEq, Int.reduceLT, Int.reduceLE, Int.reduceGT, Int.reduceGE, Int.reduceAdd, Int.reduceSub, Int.reduceMul, Int.reduceNeg, Int.reduceEq, Int.reduceNe, Int.reduceBNe, Int.reduceBEq, Int.reduceDiv]
  unfold headB
  refine ex_br (fun e => ?_) (fun e => ?_)
  · have e : n ≤ 55 := by simp at e; omega
    rw [if_pos e]
    have w : IntKind.i64.wrap ((base : Int) + (n : Int)) = ((base + n : Nat) : Int) := by rw [wi64 (by omega) (by omega)]; omega
    have w2 : IntKind.u8.wrap ((base + n : Nat) : Int) = ((base + n : Nat) : Int) := wu8 (by omega) (by omega)
    simp only [go_sem, ↓reduceIte, Nat.reduceLT, Nat.reduceLeDiff, Nat.reduceAdd, Nat.reduceSub, Nat.reduceMul, Nat.reduceEqDiff, Nat.reduceBEq, Nat.reduceMod, Nat.reduceDiv, Int.reduceToNat, reduceCtorEq, Int.reduceLT, Int.reduceLE, Int.reduceGT, Int.reduceGE, Int.reduceAdd, Int.reduceSub, Int.reduceMul, Int.reduceNeg, Int.reduceEq, Int.reduceNe, Int.reduceBNe, Int.reduceBEq, Int.reduceDiv, w, w2, Int.toNat_natCast]
    refine finOne ?_ (fun _ e => by cases e)
    show resOf _ _ [.tmp 4] = _
    simp only [go_sem, ↓reduceIte, Nat.reduceLT, Nat.reduceLeDiff, Nat.reduceAdd, Nat.reduceSub, Nat.reduceMul, Nat.reduceEqDiff, Nat.reduceBEq, Nat.reduceMod, Nat.reduceDiv, Int.reduceToNat, reduceCtorEq, Int.reduceLT, Int.reduceLE, Int.reduceGT, Int.reduceGE, Int.reduceAdd, Int.reduceSub, Int.reduceMul, Int.reduceNeg, Int.reduceEq, Int.reduceNe, Int.reduceBNe, Int.reduceBEq, Int.reduceDiv]
  · have e : ¬ n ≤ 55 := by simp at e; omega
    rw [if_neg e]
    have w : IntKind.i64.wrap ((base : Int) + 55) = ((base + 55 : Nat) : Int) := by rw [wi64 (by omega) (by omega)]; omega
    have w2 : IntKind.i64.wrap (((base + 55 : Nat) : Int) + (byteLen n : Int)) = ((base + 55 + byteLen n : Nat) : Int) := by rw [wi64 (by omega) (by omega)]; omega
    have w3 : IntKind.u8.wrap ((base + 55 + byteLen n : Nat) : Int) = ((base + 55 + byteLen n : Nat) : Int) := wu8 (by omega) (by omega)
    simp only [go_sem, ↓reduceIte, Nat.reduceLT, Nat.reduceLeDiff, Nat.reduceAdd, Nat.reduceSub, Nat.reduceMul, Nat.reduceEqDiff, Nat.reduceBEq, Nat.reduceMod, Nat.reduceDiv, Int.reduceToNat, reduceCtorEq, Int.reduceLT, Int.reduceLE, Int.reduceGT, Int.reduceGE, Int.reduceAdd, Int.reduceSub, Int.reduceMul, Int.reduceNeg, Int.reduceEq, Int.reduceNe, Int.reduceBNe, Int.reduceBEq, Int.reduceDiv]
    refine ex_call (by exact h1) ?_
    simp only [go_sem, ↓reduceIte, Nat.reduceLT, Nat.reduceLeDiff, Nat.reduceAdd, Nat.reduceSub, Nat.reduceMul, Nat.reduceEqDiff, Nat.reduceBEq, Nat.reduceMod, Nat.reduceDiv, Int.reduceToNat, reduceCtorEq, Int.reduceLT, Int.reduceLE, Int.reduceGT, Int.reduceGE, Int.reduceAdd, Int.reduceSub, Int.reduceMul, Int.reduceNeg, Int.reduceEq, Int.reduceNe, Int.reduceBNe, Int.reduceBEq, Int.reduceDiv]
    refine ex_call (by exact h2) ?_
    simp only [go_sem, ↓reduceIte, Nat.reduceLT, Nat.reduceLeDiff, Nat.reduceAdd, Nat.reduceSub, Nat.reduceMul, Nat.reduceEqDiff, Nat.reduceBEq, Nat.reduceMod, Nat.reduceDiv, Int.reduceToNat, reduceCtorEq, Int.reduceLT, Int.reduceLE, Int.reduceGT, Int.reduceGE, Int.reduceAdd, Int.reduceSub, Int.reduceMul, Int.reduceNeg, Int.reduceEq, Int.reduceNe, Int.reduceBNe, Int.reduceBEq, Int.reduceDiv, bytesOf_len, w, w2, w3, Int.toNat_natCast]
    repeat with_reducible refine And.intro (by first | omega | (simp only [List.length_cons, List.length_append, List.length_nil, List.length_map, List.length_take, List.length_drop, List.length_set]; omega)) ?_
    refine finOne ?_ (fun _ e => by cases e)
    show resOf _ _ [.tmp 4] = _
    simp only [go_sem, ↓reduceIte, Nat.reduceLT, Nat.reduceLeDiff, Nat.reduceAdd, Nat.reduceSub, Nat.reduceMul, Nat.reduceEqDiff, Nat.reduceBEq, Nat.reduceMod, Nat.reduceDiv, Int.reduceToNat, reduceCtorEq, Int.reduceLT, Int.reduceLE, Int.reduceGT, Int.reduceGE, Int.reduceAdd, Int.reduceSub, Int.reduceMul, Int.reduceNeg, Int.reduceEq, Int.reduceNe, Int.reduceBNe, Int.reduceBEq, Int.reduceDiv]
end Go.Proofs.Ytpepfhbfooeoeaa.VA
end
section
namespace Go.Proofs.Ytpepfhbfooeoeaa.VA
set_option maxRecDepth 10000
set_option maxHeartbeats 1000000

def hdAv (l : Bool) (f n : Nat) : AV := .agg [.bool l, .int .i64 f, .int .i64 n]
def hdRes : Except Nat (Bool × Nat × Nat) → AV
  | .error e => .tup [.agg [.bool false, .int .i64 (0 : Int), .int .i64 (0 : Int)], .int .i64 e]
  | .ok (l, f, n) => .tup [.agg [.bool l, .int .i64 f, .int .i64 n], .int .i64 (0 : Int)]
theorem num8 {s : List UInt8} (h : s.length ≤ 8) : numOf s < 18446744073709551616 := by
  have h1 := numOf_lt s
  have : (256 : Nat) ^ s.length ≤ 256 ^ 8 := Nat.pow_le_pow_right (by decide) h
  omega
theorem lt_U2 {n : Nat} (h : n < 18446744073709551616) : n < U := by unfold U; omega
end Go.Proofs.Ytpepfhbfooeoeaa.VA
end
section
namespace Go.Proofs.Ytpepfhbfooeoeaa.VA
set_option maxRecDepth 10000
set_option maxHeartbeats 16000000

theorem hd_err {s : List UInt8} {e : Nat} (h : hdOf s = .error e) : e = 7 ∨ e = 1 := by
  cases s with
  | nil => cases h; exact .inl rfl
  | cons b t =>
    rw [hd_cons] at h
    split at h
    · cases h
    · unfold hdRest at h
      split at h
      · cases h
      · split at h
        · cases h; exact .inl rfl
        · split at h
          · cases h; exact .inr rfl
          · split at h
            · cases h; exact .inr rfl
            · cases h
theorem hd_bounds {s : List UInt8} {l : Bool} {f n : Nat} (h : hdOf s = .ok (l, f, n)) : f ≤ 6 ∧ n ≤ 65536 ∧ (l = true → 1 ≤ f) := by
  rcases hd_back h with ⟨rfl, rfl, rfl, _⟩ | ⟨h1, h2, h3, h4⟩
  · exact ⟨by omega, by omega, fun e => by cases e⟩
  · have := ahead_le (n := n) (by omega)
    have := ahead_pos n
    exact ⟨by omega, h3, fun _ => by omega⟩
/-- What one tells, at any depth. -/
def oneR (d : Nat) (s : List UInt8) : Except Nat (ItemD × Nat) :=
  match hdOf s with
  | .error e => .error e
  | .ok (l, f, n) =>
    if (l = true ∧ 16 ≤ d) ∨ 65536 < f + n then .error 1
    else if s.length < f + n then .error 7
    else if l = false then (if 0 < f ∧ aloneB ((s.drop f).take n) = true then .error 1 else .ok (.mk false ((s.drop f).take n) [], f + n))
    else match itemsP (d + 1) ((s.drop f).take n) with
      | some xs => .ok (.mk true [] xs, f + n)
      | none => .error 1
theorem one_parse (d : Nat) (s : List UInt8) : match oneR d s with | .ok r => parse d s = .ok r | .error e => ∃ e', parse d s = .error e' ∧ (d < 16 → e' = e) := by
  unfold oneR
  rw [parse]
  cases hh : hdOf s with
  | error e => exact ⟨e, rfl, fun _ => rfl⟩
  | ok r =>
    obtain ⟨l, f, n⟩ := r
    obtain ⟨b1, b2, b3⟩ := hd_bounds hh
    simp only
    cases l with
    | false =>
      rcases Decidable.em (f + n > 65536) with h1 | h1
      · rw [if_pos (.inr h1), if_pos h1]; exact ⟨1, rfl, fun _ => rfl⟩
      · rw [if_neg (show ¬ ((false = true ∧ 16 ≤ d) ∨ 65536 < f + n) from fun h => h.elim (fun h => by cases h.1) h1), if_neg h1]
        rcases Decidable.em (s.length < f + n) with h2 | h2
        · rw [if_pos h2, if_pos h2]; exact ⟨7, rfl, fun _ => rfl⟩
        · rw [if_neg h2, if_neg h2, if_pos rfl, if_pos rfl]
          split
          · rename_i r' e
            split at e <;> first | (cases e; done) | skip
            rename_i h3
            rw [if_neg h3]; exact e
          · rename_i e' e
            split at e
            · rename_i h3
              rw [if_pos h3]; cases e; exact ⟨1, rfl, fun _ => rfl⟩
            · cases e
    | true =>
      have hf := b3 rfl
      rcases Decidable.em (f + n > 65536) with h1 | h1
      · rw [if_pos (.inr h1), if_pos h1]; exact ⟨1, rfl, fun _ => rfl⟩
      · rw [if_neg h1]
        rcases Decidable.em (16 ≤ d) with h4 | h4
        · rw [if_pos (.inl ⟨rfl, h4⟩)]
          rcases Decidable.em (s.length < f + n) with h2 | h2
          · rw [if_pos h2]; exact ⟨7, rfl, fun h => absurd h (by omega)⟩
          · rw [if_neg h2, if_neg (by simp), if_pos h4]; exact ⟨1, rfl, fun _ => rfl⟩
        · rw [if_neg (show ¬ ((true = true ∧ 16 ≤ d) ∨ 65536 < f + n) from fun h => h.elim (fun h => h4 h.2) h1)]
          rcases Decidable.em (s.length < f + n) with h2 | h2
          · rw [if_pos h2, if_pos h2]; exact ⟨7, rfl, fun _ => rfl⟩
          · have hb : ((s.drop f).take n).length < s.length := by rw [List.length_take, List.length_drop]; omega
            rw [if_neg h2, if_neg h2, if_neg (by simp), if_neg (by simp), if_neg h4, dif_pos hb]
            cases itemsP (d + 1) ((s.drop f).take n) with
            | none => exact ⟨1, rfl, fun _ => rfl⟩
            | some xs => rfl
theorem one_zero (s : List UInt8) : oneR 0 s = parse 0 s := by
  have h := one_parse 0 s
  cases ho : oneR 0 s with
  | ok r => rw [ho] at h; exact h.symm
  | error e => rw [ho] at h; obtain ⟨e', h1, h2⟩ := h; rw [h1, h2 (by decide)]
theorem items_one {d : Nat} {s : List UInt8} (hs : s ≠ []) : itemsP d s = match oneR d s with
    | .error _ => none
    | .ok (x, k) => (itemsP d (s.drop k)).map (x :: ·) := by
  have h := one_parse d s
  rw [itemsP_cons hs]
  cases ho : oneR d s with
  | ok r =>
    rw [ho] at h
    obtain ⟨x, k⟩ := r
    have h : parse d s = .ok (x, k) := h
    have := (parse_ok h).pos
    rw [h]
    simp only
    rw [if_pos (by omega)]
  | error e => rw [ho] at h; obtain ⟨e', h1, h2⟩ := h; rw [h1]
def resP : Except Nat (ItemD × Nat) → AV
  | .error e => .tup [.agg [.bool false, .str [], .sl false 3 []], .int .i64 (0 : Int), .int .i64 (e : Int)]
  | .ok (it, k) => .tup [.agg [.bool it.list, .str it.text, .sl false 3 (it.items.map ItemD.av)], .int .i64 (k : Int), .int .i64 (0 : Int)]
theorem fins3 {a b : AV} (h : Dull a b) (r : List AV) : Fins (a :: r) (b :: r) := .cons (.dull h) (finsRefl _)
theorem dull_item (l : Bool) (t : List UInt8) (fr : Bool) (es : List AV) : Dull (.agg [.bool l, .str t, .sl fr 3 es]) (.agg [.bool l, .str t, .sl false 3 es]) := dulls_agg (.cons (.refl _) (.cons (.refl _) (.cons (dsl _ _ _) .nil)))
theorem dull_none (l : Bool) (t : List UInt8) : Dull (.agg [.bool l, .str t, .ext nilP]) (.agg [.bool l, .str t, .sl false 3 []]) := dulls_agg (.cons (.refl _) (.cons (.refl _) (.cons (.nil _ _) .nil)))
/-- The item that all of the bytes are. -/
def parseAll (s : List UInt8) : Except Nat ItemD :=
  match parse 0 s with
  | .error e => .error e
  | .ok (it, k) => if k < s.length then .error 1 else .ok it
def resA : Except Nat ItemD → AV
  | .error e => .tup [.agg [.bool false, .str [], .sl false 3 []], .int .i64 (e : Int)]
  | .ok it => .tup [.agg [.bool it.list, .str it.text, .sl false 3 (it.items.map ItemD.av)], .int .i64 (0 : Int)]
theorem parse_err {s : List UInt8} {e : Nat} (h : parse 0 s = .error e) : e = 7 ∨ e = 1 := by
  rw [← one_zero] at h
  unfold oneR at h
  cases hh : hdOf s with
  | error e2 => rw [hh] at h; cases h; exact hd_err hh
  | ok r2 =>
    obtain ⟨l2, f2, n2⟩ := r2
    rw [hh] at h
    simp only at h
    repeat' (split at h)
    all_goals first | (cases h; omega) | (cases h; done)
end Go.Proofs.Ytpepfhbfooeoeaa.VA
end
section
namespace Go.Proofs.Ytpepfhbfooeoeaa.VA
theorem ex_cut {α : Type} {C : Cfg} {Q : AEx → ASt → Prop} {k : List Todo} {t : Todo} {σ : ASt} (st : α → ASt) (p : α → Prop) (h2 : ∀ a, p a → exec C Q k .normal (st a))
    (h1 : ∀ κ : List Todo, (∀ a, p a → exec C Q κ .normal (st a)) → exec C Q (t :: κ) .normal σ) : exec C Q (t :: k) .normal σ := h1 k h2
theorem ex_cut2 {α : Type} {C : Cfg} {Q : AEx → ASt → Prop} {k : List Todo} {t u : Todo} {σ : ASt} (st : α → ASt) (p : α → Prop) (h2 : ∀ a, p a → exec C Q k .normal (st a))
    (h1 : ∀ κ : List Todo, (∀ a, p a → exec C Q κ .normal (st a)) → exec C Q (t :: u :: κ) .normal σ) : exec C Q (t :: u :: k) .normal σ := h1 k h2
theorem ex_ret_any {C : Cfg} {Q : AEx → ASt → Prop} : ∀ {k : List Todo} {σ : ASt}, Q .ret σ → exec C Q k .ret σ
  | [], _, h => h
  | t :: k, σ, h => by
    have ih := ex_ret_any (C := C) (k := k) h
    cases t <;> first | exact ih | (rename_i b _ _; cases b <;> exact ih)
end Go.Proofs.Ytpepfhbfooeoeaa.VA
end
section
namespace Go.Proofs.Ytpepfhbfooeoeaa.VA
set_option maxRecDepth 10000
set_option maxHeartbeats 16000000

def bodyR (d : Nat) (s : List UInt8) (l : Bool) (f n : Nat) : Except Nat (ItemD × Nat) :=
  if f + n > 65536 then .error 1
  else if s.length < f + n then .error 7
  else if l = false then (if 0 < f ∧ aloneB ((s.drop f).take n) = true then .error 1 else .ok (.mk false ((s.drop f).take n) [], f + n))
  else if 16 ≤ d then .error 1
  else match itemsP (d + 1) ((s.drop f).take n) with
    | some xs => .ok (.mk true [] xs, f + n)
    | none => .error 1
theorem parse_body {d : Nat} {s : List UInt8} {l : Bool} {f n : Nat} (hh : hdOf s = .ok (l, f, n)) : parse d s = bodyR d s l f n := by
  obtain ⟨b1, b2, b3⟩ := hd_bounds hh
  rw [parse, hh]
  unfold bodyR
  simp only
  split
  · rfl
  · split
    · rfl
    · split
      · rfl
      · split
        · rfl
        · rename_i h1 h2 h3 h4
          have hl : l = true := by cases l <;> simp_all
          have := b3 hl
          rw [dif_pos (by rw [List.length_take, List.length_drop]; omega)]
          all_goals (cases itemsP (d + 1) ((s.drop f).take n) <;> rfl)
theorem parse_errD {d : Nat} {s : List UInt8} {e : Nat} (h : parse d s = .error e) : e = 7 ∨ e = 1 := by
  cases hh : hdOf s with
  | error e2 => rw [parse, hh] at h; cases h; exact hd_err hh
  | ok r2 =>
    obtain ⟨l2, f2, n2⟩ := r2
    rw [parse_body hh] at h
    unfold bodyR at h
    repeat' (split at h)
    all_goals first | (cases h; omega) | (cases h; done)
theorem numOf_take_le (t : List UInt8) {i k : Nat} (h : i ≤ k) : numOf (t.take i) ≤ numOf (t.take k) := by
  have e : t.take k = t.take i ++ (t.drop i).take (k - i) := by
    rw [← List.take_add]; congr 1; omega
  rw [e, numOf_append]
  have : 0 < 256 ^ ((t.drop i).take (k - i)).length := Nat.pow_pos (by decide)
  have := Nat.le_mul_of_pos_right (numOf (t.take i)) this
  omega
end Go.Proofs.Ytpepfhbfooeoeaa.VA
end
section
namespace Go.Proofs.Ytpepfhbfooeoeaa.VA
set_option maxRecDepth 10000
set_option maxHeartbeats 4000000

theorem parse_itok {s : List UInt8} {it : ItemD} {k : Nat} (hs : s.length ≤ 4194304) (h : parse 0 s = .ok (it, k)) : it.ok := by
  have := (parse_ok h).wt
  have := (parse_ok h).le
  unfold ItemD.ok; omega
end Go.Proofs.Ytpepfhbfooeoeaa.VA
end
section
namespace Go.Proofs.Ytpepfhbfooeoeaa.VA
set_option maxRecDepth 10000

abbrev leaf (s : List UInt8) : ItemD := .mk false s []
abbrev listI (xs : List ItemD) : ItemD := .mk true [] xs
abbrev numI (n : Nat) : ItemD := leaf (bytesOf n)
def hashI (t : TxD) : ItemD := listI (t.hashes.map fun h => leaf (textOf h))
def blobI (t : TxD) : ItemD := listI (t.blobs.map leaf)
def txItem (t : TxD) : ItemD := listI [numI t.frm.toNat, numI t.nonce.toNat, numI t.tip, numI t.cap, numI t.bcap, numI t.value, numI t.gas.toNat, hashI t, blobI t]
def txRaw (t : TxD) : List UInt8 := rawOf (txItem t)
theorem leaf_raw {s : List UInt8} (h : s.length < 1099511627776) : (rawOf (leaf s)).length ≤ s.length + 6 := by
  rw [rawOf_text rfl]
  have := ahead_le h
  split
  · exact Nat.le_add_right _ _
  · rw [List.length_append, headB_len]
    show aheadN s.length + s.length ≤ _
    omega
theorem leaf_short {s : List UInt8} (h : s.length ≤ 55) : (rawOf (leaf s)).length ≤ s.length + 1 := by
  rw [rawOf_text rfl]
  split
  · exact Nat.le_add_right _ _
  · rw [List.length_append, headB_len]
    show aheadN s.length + s.length ≤ _
    unfold aheadN
    rw [if_pos h]; omega
theorem leaf_may (d : Nat) {s : List UInt8} (h : s.length ≤ 65000) : okI d (leaf s) = true := by
  rw [okI_text d rfl, Bool.and_eq_true, decide_eq_true_eq]
  have := leaf_raw (s := s) (by omega)
  exact ⟨rfl, by omega⟩
theorem raws_bound {xs : List ItemD} {m : Nat} (h : ∀ x ∈ xs, (rawOf x).length ≤ m) : (raws xs).length ≤ m * xs.length := by
  induction xs with
  | nil => rw [raws_nil]; simp
  | cons x xs ih =>
    rw [raws_cons, List.length_append, List.length_cons, Nat.mul_add, Nat.mul_one]
    have := h x (by simp)
    have := ih fun y hy => h y (List.mem_cons_of_mem _ hy)
    omega
theorem list_raw (xs : List ItemD) : (rawOf (listI xs)).length = aheadN (raws xs).length + (raws xs).length := by
  rw [rawOf_list rfl, List.length_append, headB_len]; rfl
theorem list_may {d : Nat} {xs : List ItemD} (hd : d < 16) (h : ∀ x ∈ xs, okI (d + 1) x = true) (hl : (raws xs).length ≤ 65000) : okI d (listI xs) = true := by
  rw [okI_list d rfl]
  have := list_raw xs
  have := ahead_le (n := (raws xs).length) (by omega)
  simp only [Bool.and_eq_true, decide_eq_true_eq]
  exact ⟨⟨⟨rfl, hd⟩, okIs_all h⟩, by omega⟩
theorem byteLen_U {n : Nat} (h : n < U) : byteLen n ≤ 32 := (byteLen_le n 32).2 (by
  have : (256 : Nat) ^ 32 = U := by unfold U; decide
  omega)
theorem unlike_no : ∀ {hs : List Int} {bs : List (List UInt8)}, hs.length = bs.length → unlike hs bs = false → hs = bs.map hashOf
  | [], [], _, _ => rfl
  | h :: hs, b :: bs, hl, hu => by
    simp only [unlike, Bool.or_eq_false_iff, bne_eq_false_iff_eq] at hu
    rw [List.map_cons, hu.1, ← unlike_no (by simpa using hl) hu.2]
  | [], _ :: _, hl, _ => by simp at hl
  | _ :: _, [], hl, _ => by simp at hl
theorem fits_all {hs : List Int} {bs : List (List UInt8)} (h : fitsOf hs bs = 0) : hs = bs.map hashOf ∧ (∀ b ∈ bs, b.length ≤ 64) ∧ 1 ≤ bs.length ∧ bs.length ≤ 4 := by
  have hl := fits_len h
  unfold fitsOf at h
  cases hb : badFit hs bs with
  | true => rw [hb] at h; cases h
  | false =>
    rw [hb] at h
    cases ht : tooLong bs with
    | true => rw [ht] at h; cases h
    | false =>
      rw [ht] at h
      cases hu : unlike hs bs with
      | true => rw [hu] at h; cases h
      | false =>
        refine ⟨unlike_no hl.2.2 hu, fun b hb => ?_, hl.1, hl.2.1⟩
        unfold tooLong at ht
        rw [List.any_eq_false] at ht
        have := ht b hb
        simp only [decide_eq_true_eq] at this
        omega
theorem hashOf_range (b : List UInt8) : 0 ≤ hashOf b ∧ hashOf b < 18446744073709551616 := markFrom_range _ 14695981039346656037 (by decide) (by decide)
structure Valid (t : TxD) : Prop where
  frm : 0 ≤ t.frm ∧ t.frm < 8
  nonce : 0 ≤ t.nonce ∧ t.nonce ≤ 1099511627776
  gas : 0 ≤ t.gas ∧ t.gas ≤ 1073741824
  tip : t.tip ≤ t.cap
  fits : fitsOf t.hashes t.blobs = 0
  cost : costOf t < U
  hashes : t.hashes = t.blobs.map hashOf
  blob : ∀ b ∈ t.blobs, b.length ≤ 64
  one : 1 ≤ t.blobs.length
  four : t.blobs.length ≤ 4
theorem valid_of {t : TxD} (h : validTx t = true) : Valid t := by
  simp only [validTx, Bool.and_eq_true, decide_eq_true_eq] at h
  obtain ⟨⟨⟨⟨⟨⟨h1, h2⟩, h3, h4⟩, h5, h6⟩, h7⟩, h8⟩, h9⟩ := h
  obtain ⟨f1, f2, f3, f4⟩ := fits_all h8
  exact ⟨⟨h1, h2⟩, ⟨h3, h4⟩, ⟨h5, h6⟩, h7, h8, h9, f1, f2, f3, f4⟩
theorem num_short {n : Nat} (h : n < U) : (bytesOf n).length ≤ 32 := by rw [bytesOf_len]; exact byteLen_U h
theorem lt_U40 {n : Int} (h : n ≤ 1099511627776) : n.toNat < U := by unfold U; omega
theorem textOf_len (m : Int) : (textOf m).length = 8 := rfl
theorem hashI_raw {t : TxD} (h4 : t.hashes.length ≤ 4) : (raws (hashI t).items).length ≤ 36 := by
  have := raws_bound (xs := (hashI t).items) (m := 9) fun x hx => by
    obtain ⟨m, _, rfl⟩ := List.mem_map.1 hx
    exact leaf_short (s := textOf m) (by rw [textOf_len]; omega)
  have e : (hashI t).items.length = t.hashes.length := by show (t.hashes.map _).length = _; simp
  rw [e] at this
  omega
theorem blobI_raw {t : TxD} (h4 : t.blobs.length ≤ 4) (hb : ∀ b ∈ t.blobs, b.length ≤ 64) : (raws (blobI t).items).length ≤ 280 := by
  have := raws_bound (xs := (blobI t).items) (m := 70) fun x hx => by
    obtain ⟨b, hm, rfl⟩ := List.mem_map.1 hx
    have := hb b hm
    have := leaf_raw (s := b) (by omega)
    omega
  have e : (blobI t).items.length = t.blobs.length := by show (t.blobs.map _).length = _; simp
  rw [e] at this
  omega
theorem num_raw {n : Nat} (h : n < U) : (rawOf (numI n)).length ≤ 33 := by
  have h1 := num_short h
  have h2 : (rawOf (numI n)).length ≤ _ := leaf_short (s := bytesOf n) (by omega)
  omega
theorem valid_hlen {t : TxD} (hv : Valid t) : t.hashes.length ≤ 4 := by rw [hv.hashes, List.length_map]; exact hv.four
theorem tx_raws {t : TxD} (h : t.ok) (hv : Valid t) : (raws (txItem t).items).length ≤ 560 := by
  have h0 := num_raw (n := t.frm.toNat) (lt_U40 (by have := hv.frm; omega))
  have h1 := num_raw (n := t.nonce.toNat) (lt_U40 hv.nonce.2)
  have h2 := num_raw h.tip
  have h3 := num_raw h.cap
  have h4 := num_raw h.bcap
  have h5 := num_raw h.value
  have h6 := num_raw (n := t.gas.toNat) (lt_U40 (by have := hv.gas; omega))
  have h7 := hashI_raw (valid_hlen hv)
  have h8 := blobI_raw hv.four hv.blob
  have a7 := ahead_le (n := (raws (hashI t).items).length) (by omega)
  have a8 := ahead_le (n := (raws (blobI t).items).length) (by omega)
  have l7 : (rawOf (hashI t)).length = _ := list_raw (hashI t).items
  have l8 : (rawOf (blobI t)).length = _ := list_raw (blobI t).items
  show (raws [_, _, _, _, _, _, _, _, _]).length ≤ _
  simp only [raws_cons, raws_nil, List.length_append, List.length_nil]
  omega
theorem tx_may {t : TxD} (h : t.ok) (hv : Valid t) : okI 0 (txItem t) = true := by
  have nn : ∀ {n : Nat}, n < U → okI 1 (numI n) = true := fun hn => leaf_may 1 (by have := num_short hn; omega)
  refine list_may (by decide) (fun x hx => ?_) (by have : (raws (txItem t).items).length ≤ 560 := tx_raws h hv; exact Nat.le_trans this (by decide))
  simp only [List.mem_cons, List.not_mem_nil, or_false] at hx
  rcases hx with rfl | rfl | rfl | rfl | rfl | rfl | rfl | rfl | rfl
  · exact nn (lt_U40 (by have := hv.frm; omega))
  · exact nn (lt_U40 hv.nonce.2)
  · exact nn h.tip
  · exact nn h.cap
  · exact nn h.bcap
  · exact nn h.value
  · exact nn (lt_U40 (by have := hv.gas; omega))
  · refine list_may (by decide) (fun x hx => ?_) (Nat.le_trans (hashI_raw (valid_hlen hv)) (by decide))
    obtain ⟨m, _, rfl⟩ := List.mem_map.1 hx
    exact leaf_may 2 (by rw [textOf_len]; omega)
  · refine list_may (by decide) (fun x hx => ?_) (Nat.le_trans (blobI_raw hv.four hv.blob) (by decide))
    obtain ⟨b, hm, rfl⟩ := List.mem_map.1 hx
    exact leaf_may 2 (by have := hv.blob b hm; omega)
theorem txRaw_len {t : TxD} (h : t.ok) (hv : Valid t) : (txRaw t).length ≤ 566 := by
  have := tx_raws h hv
  have := ahead_le (n := (raws (txItem t).items).length) (by omega)
  have e : (txRaw t).length = _ := list_raw (txItem t).items
  omega
theorem leaf_wt (s : List UInt8) : (leaf s).wt = 1 + s.length := by rw [wt_eq]; show 1 + s.length + wts [] = _; rw [wts_nil, Nat.add_zero]
theorem list_wt (xs : List ItemD) : (listI xs).wt = 1 + wts xs := by rw [wt_eq]; show 1 + 0 + wts xs = _; rw [Nat.add_zero]
theorem wts_bound {xs : List ItemD} {m : Nat} (h : ∀ x ∈ xs, x.wt ≤ m) : wts xs ≤ m * xs.length := by
  induction xs with
  | nil => rw [wts_nil]; simp
  | cons x xs ih =>
    rw [wts_cons, List.length_cons, Nat.mul_add, Nat.mul_one]
    have := h x (by simp)
    have := ih fun y hy => h y (List.mem_cons_of_mem _ hy)
    omega
theorem tx_itok {t : TxD} (h : t.ok) (hv : Valid t) : (txItem t).ok := by
  have nn : ∀ {n : Nat}, n < U → (numI n).wt ≤ 33 := fun hn => by rw [leaf_wt]; have := num_short hn; omega
  have h0 := nn (n := t.frm.toNat) (lt_U40 (by have := hv.frm; omega))
  have h1 := nn (n := t.nonce.toNat) (lt_U40 hv.nonce.2)
  have h2 := nn h.tip
  have h3 := nn h.cap
  have h4 := nn h.bcap
  have h5 := nn h.value
  have h6 := nn (n := t.gas.toNat) (lt_U40 (by have := hv.gas; omega))
  have h7 : (hashI t).wt ≤ 37 := by
    have hw := wts_bound (xs := (hashI t).items) (m := 9) fun x hx => by
      obtain ⟨m, _, rfl⟩ := List.mem_map.1 hx
      rw [leaf_wt, textOf_len]; omega
    have e : (hashI t).items.length = t.hashes.length := by show (t.hashes.map _).length = _; simp
    have e2 : (hashI t).wt = _ := list_wt (hashI t).items
    have := valid_hlen hv
    rw [e] at hw
    omega
  have h8 : (blobI t).wt ≤ 261 := by
    have hw := wts_bound (xs := (blobI t).items) (m := 65) fun x hx => by
      obtain ⟨b, hm, rfl⟩ := List.mem_map.1 hx
      rw [leaf_wt]
      have := hv.blob b hm
      omega
    have e : (blobI t).items.length = t.blobs.length := by show (t.blobs.map _).length = _; simp
    have e2 : (blobI t).wt = _ := list_wt (blobI t).items
    have := hv.four
    rw [e] at hw
    omega
  unfold ItemD.ok
  have e : (txItem t).wt = _ := list_wt (txItem t).items
  rw [e]
  show 1 + wts [_, _, _, _, _, _, _, _, _] ≤ _
  simp only [wts_cons, wts_nil]
  omega
/-! Back. -/
theorem takeU_bytes {n : Nat} (h : n < U) : takeU (bytesOf n) = (n, true) := by
  unfold takeU
  rw [if_neg (fun e => by
    rcases e with e | e
    · have := num_short h; omega
    · exact bytesOf_head n e), bytesOf_val]
def eachI (x : ItemD) : List ItemD := if x.list = true then x.items else []
def smallU (n : Nat) : Bool := decide (n < 9223372036854775808)
def nums (l : List ItemD) : Bool := l.all fun x => (takeU x.text).2
def fieldsTx (x0 x1 x2 x3 x4 x5 x6 x7 x8 : ItemD) : TxD :=
  ⟨(takeU x0.text).1, (takeU x1.text).1, (takeU x2.text).1, (takeU x3.text).1, (takeU x4.text).1, (takeU x5.text).1, (takeU x6.text).1, (eachI x7).map (fun x => (takeOf x.text).1), (eachI x8).map ItemD.text⟩
def readTx : List ItemD → Option TxD
  | [x0, x1, x2, x3, x4, x5, x6, x7, x8] =>
    if nums [x0, x1, x2, x3, x4, x5, x6] = true then
      (if (smallU (takeU x0.text).1 && smallU (takeU x1.text).1 && smallU (takeU x6.text).1) = true then some (fieldsTx x0 x1 x2 x3 x4 x5 x6 x7 x8) else none)
    else none
  | _ => none
def takeTx (s : List UInt8) : Option TxD :=
  match parseAll s with
  | .error _ => none
  | .ok it => match readTx it.items with
    | none => none
    | some t => if validTx t = true ∧ txRaw t = s then some t else none
theorem fields_tx {t : TxD} (h : t.ok) (hv : Valid t) : fieldsTx (numI t.frm.toNat) (numI t.nonce.toNat) (numI t.tip) (numI t.cap) (numI t.bcap) (numI t.value) (numI t.gas.toNat) (hashI t) (blobI t) = t := by
  unfold fieldsTx
  have b0 := takeU_bytes (n := t.frm.toNat) (lt_U40 (by have := hv.frm; omega))
  have b1 := takeU_bytes (n := t.nonce.toNat) (lt_U40 hv.nonce.2)
  have b6 := takeU_bytes (n := t.gas.toNat) (lt_U40 (by have := hv.gas; omega))
  have e : ∀ s : List UInt8, (leaf s).text = s := fun _ => rfl
  rw [e, e, e, e, e, e, e, b0, b1, takeU_bytes h.tip, takeU_bytes h.cap, takeU_bytes h.bcap, takeU_bytes h.value, b6]
  have h7 : (eachI (hashI t)).map (fun x => (takeOf x.text).1) = t.hashes := by
    show ((t.hashes.map fun h => leaf (textOf h))).map (fun x => (takeOf x.text).1) = t.hashes
    rw [List.map_map]
    refine (List.map_congr_left (g := id) fun m hm => ?_).trans (List.map_id t.hashes)
    have hm2 : m ∈ t.blobs.map hashOf := by rw [← hv.hashes]; exact hm
    obtain ⟨b, hb, he⟩ := List.mem_map.1 hm2
    show (takeOf (textOf m)).1 = m
    rw [← he]
    unfold hashOf
    rw [take_text_mark]
  have h8 : (eachI (blobI t)).map ItemD.text = t.blobs := by
    show (t.blobs.map leaf).map ItemD.text = t.blobs
    rw [List.map_map]
    exact List.map_id t.blobs
  rw [h7, h8]
  have f0 := hv.frm
  have f1 := hv.nonce
  have f6 := hv.gas
  have g0 : ((t.frm.toNat : Nat) : Int) = t.frm := Int.toNat_of_nonneg f0.1
  have g1 : ((t.nonce.toNat : Nat) : Int) = t.nonce := Int.toNat_of_nonneg f1.1
  have g6 : ((t.gas.toNat : Nat) : Int) = t.gas := Int.toNat_of_nonneg f6.1
  simp only [g0, g1, g6]
theorem read_tx {t : TxD} (h : t.ok) (hv : Valid t) : readTx (txItem t).items = some t := by
  show readTx [_, _, _, _, _, _, _, _, _] = _
  unfold readTx
  have b0 := takeU_bytes (n := t.frm.toNat) (lt_U40 (by have := hv.frm; omega))
  have b1 := takeU_bytes (n := t.nonce.toNat) (lt_U40 hv.nonce.2)
  have b6 := takeU_bytes (n := t.gas.toNat) (lt_U40 (by have := hv.gas; omega))
  have e : ∀ s : List UInt8, (leaf s).text = s := fun _ => rfl
  have hn : nums [numI t.frm.toNat, numI t.nonce.toNat, numI t.tip, numI t.cap, numI t.bcap, numI t.value, numI t.gas.toNat] = true := by
    unfold nums
    simp only [List.all_cons, List.all_nil, e, b0, b1, takeU_bytes h.tip, takeU_bytes h.cap, takeU_bytes h.bcap, takeU_bytes h.value, b6, Bool.and_self]
  simp only
  rw [if_pos hn, if_pos, fields_tx h hv]
  rw [e, e, e, b0, b1, b6]
  have f0 := hv.frm
  have f1 := hv.nonce
  have f6 := hv.gas
  unfold smallU
  simp only [Bool.and_eq_true, decide_eq_true_eq]
  omega
theorem parse_tx {t : TxD} (h : t.ok) (hv : Valid t) (r : List UInt8) : parse 0 (txRaw t ++ r) = .ok (txItem t, (txRaw t).length) := parse_raw (txItem t) 0 (tx_may h hv) r
theorem parseAll_tx {t : TxD} (h : t.ok) (hv : Valid t) : parseAll (txRaw t) = .ok (txItem t) := by
  have := parse_tx h hv []
  rw [List.append_nil] at this
  unfold parseAll
  rw [this]
  simp only
  rw [if_neg (by omega)]
theorem take_tx {t : TxD} (h : t.ok) (hv : validTx t = true) : takeTx (txRaw t) = some t := by
  unfold takeTx
  rw [parseAll_tx h (valid_of hv)]
  simp only
  rw [read_tx h (valid_of hv)]
  simp only
  rw [if_pos ⟨hv, trivial⟩]
theorem parseAll_ok {s : List UInt8} {it : ItemD} (h : parseAll s = .ok it) : parse 0 s = .ok (it, s.length) ∧ okI 0 it = true ∧ rawOf it = s ∧ it.wt ≤ 2 * s.length := by
  unfold parseAll at h
  cases hp : parse 0 s with
  | error e => rw [hp] at h; cases h
  | ok r =>
    obtain ⟨x, k⟩ := r
    rw [hp] at h
    simp only at h
    have hpo := parse_ok hp
    have hle := hpo.le
    split at h
    · cases h
    · cases h
      have hk : k = s.length := by omega
      subst hk
      exact ⟨rfl, hpo.may, by rw [hpo.raw, List.take_length], hpo.wt⟩
theorem nums_lt {x : ItemD} : (takeU x.text).1 < U := takeU_lt _
theorem readTx_ok {l : List ItemD} {t : TxD} (h : readTx l = some t) (hl : wts l ≤ 16777216) : t.ok := by
  unfold readTx at h
  split at h
  · rename_i x0 x1 x2 x3 x4 x5 x6 x7 x8
    split at h
    · split at h
      · rename_i h1 h2
        cases h
        unfold smallU at h2
        simp only [Bool.and_eq_true, decide_eq_true_eq] at h2
        have m7 := wts_mem (x := x7) (xs := [x0, x1, x2, x3, x4, x5, x6, x7, x8]) (by simp)
        have m8 := wts_mem (x := x8) (xs := [x0, x1, x2, x3, x4, x5, x6, x7, x8]) (by simp)
        rw [wt_eq] at m7 m8
        have e7 : (eachI x7).length ≤ 16777216 := by
          unfold eachI
          split
          · have := wts_len x7.items; omega
          · simp
        have e8 : (eachI x8).length ≤ 16777216 := by
          unfold eachI
          split
          · have := wts_len x8.items; omega
          · simp
        have f0 : ∀ n : Nat, n < 9223372036854775808 → -9223372036854775808 ≤ (n : Int) ∧ (n : Int) ≤ 9223372036854775807 := fun n h => by omega
        refine ⟨f0 _ h2.1.1, f0 _ h2.1.2, f0 _ h2.2, nums_lt, nums_lt, nums_lt, nums_lt, ?_, ?_, ?_⟩
        · show ((eachI x7).map _).length * 8 ≤ reachBytes
          rw [List.length_map]; unfold reachBytes; omega
        · show ((eachI x8).map _).length * 16 ≤ reachBytes
          rw [List.length_map]; unfold reachBytes; omega
        · intro b hb
          obtain ⟨x, hx, rfl⟩ := List.mem_map.1 (show b ∈ (eachI x8).map ItemD.text from hb)
          have : x ∈ x8.items := by
            unfold eachI at hx
            split at hx
            · exact hx
            · cases hx
          have := wts_mem this
          rw [wt_eq] at this
          unfold reachBytes; omega
      · cases h
    · cases h
  · cases h
theorem takeTx_some {s : List UInt8} {t : TxD} (hs : s.length ≤ 4194304) (h : takeTx s = some t) : t.ok ∧ validTx t = true ∧ txRaw t = s := by
  unfold takeTx at h
  cases hp : parseAll s with
  | error e => rw [hp] at h; cases h
  | ok it =>
    rw [hp] at h
    simp only at h
    obtain ⟨_, _, _, hw⟩ := parseAll_ok hp
    have hwe := wt_eq it
    cases hr : readTx it.items with
    | none => rw [hr] at h; cases h
    | some t2 =>
      rw [hr] at h
      simp only at h
      split at h
      · rename_i hv
        cases h
        exact ⟨readTx_ok hr (by omega), hv.1, hv.2⟩
      · cases h
theorem takeTx_cut {t : TxD} (h : t.ok) (hv : validTx t = true) {j : Nat} (hj : j < (txRaw t).length) : takeTx ((txRaw t).take j) = none := by
  have := parse_cut (txItem t) (tx_may h (valid_of hv)) hj
  unfold takeTx parseAll
  have h2 : parse 0 ((txRaw t).take j) = .error 7 := this
  rw [h2]
theorem takeTx_more {t : TxD} (h : t.ok) (hv : validTx t = true) (b : UInt8) (r : List UInt8) : takeTx (txRaw t ++ b :: r) = none := by
  unfold takeTx parseAll
  rw [parse_tx h (valid_of hv)]
  simp only
  rw [if_pos (by simp)]
end Go.Proofs.Ytpepfhbfooeoeaa.VA
end
section
namespace Go.Proofs.Ytpepfhbfooeoeaa.VA
set_option maxRecDepth 10000
set_option maxHeartbeats 1000000

def longK (d : Nat) (it : ItemD) : Nat :=
  if it.list = false then (if it.items ≠ [] ∨ it.text.length > 65536 then 0 else if aloneB it.text = true then 1 else it.text.length + aheadN it.text.length)
  else if it.text ≠ [] ∨ 16 ≤ d then 0
  else if okIs (d + 1) it.items = true ∧ (raws it.items).length ≤ 65536 then (raws it.items).length + aheadN (raws it.items).length else 0
theorem longK_ok {d : Nat} {it : ItemD} (h : okI d it = true) : longK d it = (rawOf it).length := by
  unfold longK
  cases hl : it.list with
  | false =>
    rw [okI_text d hl, Bool.and_eq_true, decide_eq_true_eq, List.isEmpty_iff] at h
    rw [if_pos rfl]
    obtain ⟨h1, h2⟩ := h
    have ht : ¬ it.text.length > 65536 := by
      rw [rawOf_text hl] at h2
      split at h2
      · rename_i ha; have := alone_len ha; omega
      · rw [List.length_append] at h2; omega
    rw [if_neg (by simp [h1, ht]), rawOf_text hl]
    split
    · rename_i ha; rw [alone_len ha]
    · rw [List.length_append, headB_len]; omega
  | true =>
    rw [okI_list d hl] at h
    simp only [Bool.and_eq_true, decide_eq_true_eq, List.isEmpty_iff] at h
    obtain ⟨⟨⟨h1, h2⟩, h3⟩, h4⟩ := h
    rw [if_neg (by simp), if_neg (by simp [h1]; omega), rawOf_list hl, List.length_append, headB_len]
    rw [rawOf_list hl, List.length_append] at h4
    rw [if_pos ⟨h3, by omega⟩]
    omega
theorem longK_le (d : Nat) (it : ItemD) : longK d it ≤ 65542 := by
  have h1 := @ahead_le it.text.length
  have h2 := @ahead_le (raws it.items).length
  unfold longK
  repeat' split
  all_goals omega
theorem c_item_long (it : ItemD) (h : it.ok) (d : Nat) (hd : d ≤ 16) : Contract Try.prog 137 [it.av, .int .i64 d] (.tup [.int .i64 (longK d it), .bool (okI d it)]) := by
  have ht := h.text
  have hn := h.num
  have hahead := ahead_le (n := it.text.length) (by omega)
  cases hl : it.list with
  | false =>
    refine contract_of (C := cf 91 [1, 2, 4, 5, 6, 7, 9, 10, 11, 12, 28, 37, 52, 60, 61, 62, 63, 64, 82] (fun _ => [])) (cf_ok _ _ _) (fn := Try.f137) Try.func137 (by kernel_rfl) rfl (by kernel_rfl) (by simp [cf]) (plain2 it.plain (.int _ _)) (by decide) (noCell (by kernel_rfl)) ?_
    have bad : ∀ {σ}, look σ.tmps 4 = some (.int .i64 0) → look σ.tmps 5 = some (.bool false) → longK d it = 0 → okI d it = false → BodyPost (cf 91 [1, 2, 4, 5, 6, 7, 9, 10, 11, 12, 28, 37, 52, 60, 61, 62, 63, 64, 82] (fun _ => [])) Try.f137.results.toList (.tup [.int .i64 (longK d it), .bool (okI d it)]) .ret σ := fun h1 h2 h3 h4 => by
      refine finTup ?_
      show resOf _ _ [.tmp 4, .tmp 5] = _
      rw [h3, h4]
      simp only [resOf, resAll, resOne, resCons, resTup, resTmp, h1, h2, AV.isImm, if_true]
      rfl
    simp only [go_sem, seval, ItemD.av_eq, ItemD.cells, hl, List.length_map]
    rcases Decidable.em (it.items = []) with hi | hi
    · rw [hi]
      simp only [go_sem, seval, Int.cast_ofNat_Int]
      rcases Decidable.em (it.text.length > 65536) with hx | hx
      · have e1 : decide ((it.text.length : Int) > 65536) = true := decide_eq_true (by omega)
        rw [e1]
        simp only [go_sem, seval]
        refine bad rfl rfl (by unfold longK; rw [if_pos hl, if_pos (.inr hx)]) ?_
        rw [okI_text d hl, hi, rawOf_text hl]
        rw [if_neg (fun ha => by have := alone_len ha; omega), List.length_append]
        rw [decide_eq_false (by omega)]; rfl
      · have e1 : decide ((it.text.length : Int) > 65536) = false := decide_eq_false (by omega)
        rw [e1]
        simp only [go_sem, seval, hl]
        refine ex_call (by exact c_item_alone it.text (by omega)) ?_
        simp only [go_sem, seval, hl]
        cases ha : aloneB it.text with
        | true =>
          have hk : longK d it = 1 := by unfold longK; rw [if_pos hl, if_neg (by simp [hi]; omega), if_pos ha]
          have ho : okI d it = true := by rw [okI_text d hl, hi, rawOf_text hl, if_pos ha, alone_len ha]; rfl
          rw [hk, ho]
          simp only [go_sem, seval]
          refine finTup ?_
          show resOf _ _ [.tmp 4, .tmp 5] = _
          simp only [go_sem, seval]
          try rfl
        | false =>
          have hk : longK d it = it.text.length + aheadN it.text.length := by unfold longK; rw [if_pos hl, if_neg (by simp [hi]; omega), if_neg (by rw [ha]; simp)]
          have ho : okI d it = decide (((it.text.length + aheadN it.text.length : Nat) : Int) ≤ 65536) := by
            rw [okI_text d hl, hi, rawOf_text hl, if_neg (by rw [ha]; simp), List.length_append, headB_len]
            rw [show ([] : List ItemD).isEmpty = true from rfl, Bool.true_and]
            exact decide_congr (by omega)
          have w : IntKind.i64.wrap ((it.text.length : Int) + (aheadN it.text.length : Int)) = ((it.text.length + aheadN it.text.length : Nat) : Int) := by rw [wi64 (by omega) (by omega)]; omega
          rw [hk, ho]
          simp only [go_sem, seval, hl]
          refine ex_draw [] [] (.quiet 0 (.quiet 1 (.quiet 2 (.quiet 3 (.quiet 4 (.quiet 5 (.one 6 (.quiet 7 (.quiet 8 (.fin)))))))))) (by kernel_rfl) ?_
          simp only [go_sem, seval]
          refine ex_call (by exact c_item_ahead it.text.length (by omega)) ?_
          simp only [go_sem, seval, w]
          refine finTup ?_
          show resOf _ _ [.tmp 4, .tmp 5] = _
          simp only [go_sem, seval]
    · have e1 : decide ((it.items.length : Int) > 0) = true := decide_eq_true (by
        have : it.items.length ≠ 0 := fun e => hi (List.eq_nil_of_length_eq_zero e)
        omega)
      rw [e1]
      simp only [go_sem, seval]
      refine bad rfl rfl (by unfold longK; rw [if_pos hl, if_pos (.inl hi)]) ?_
      rw [okI_text d hl]
      cases hq : it.items with
      | nil => exact absurd hq hi
      | cons a l => rfl
  | true =>
    have ih : ∀ x, x ∈ it.items → d + 1 ≤ 16 → Contract Try.prog 137 [x.av, .int .i64 (d + 1 : Nat)] (.tup [.int .i64 (longK (d + 1) x), .bool (okI (d + 1) x)]) := fun x hx hd1 => c_item_long x (h.all x hx) (d + 1) hd1
    refine contract_of (C := cf 91 [1, 2, 4, 5, 6, 7, 9, 10, 11, 12, 28, 37, 52, 60, 61, 62, 63, 64, 82] (fun _ => [])) (cf_ok _ _ _) (fn := Try.f137) Try.func137 (by kernel_rfl) rfl (by kernel_rfl) (by simp [cf]) (plain2 it.plain (.int _ _)) (by decide) (noCell (by kernel_rfl)) ?_
    have hkl : longK d it = if it.text ≠ [] ∨ 16 ≤ d then 0 else if okIs (d + 1) it.items = true ∧ (raws it.items).length ≤ 65536 then (raws it.items).length + aheadN (raws it.items).length else 0 := by
      unfold longK; rw [if_neg (by rw [hl]; simp)]
    have bad : ∀ {σ}, look σ.tmps 4 = some (.int .i64 0) → look σ.tmps 5 = some (.bool false) → longK d it = 0 → okI d it = false → BodyPost (cf 91 [1, 2, 4, 5, 6, 7, 9, 10, 11, 12, 28, 37, 52, 60, 61, 62, 63, 64, 82] (fun _ => [])) Try.f137.results.toList (.tup [.int .i64 (longK d it), .bool (okI d it)]) .ret σ := fun h1 h2 h3 h4 => by
      refine finTup ?_
      show resOf _ _ [.tmp 4, .tmp 5] = _
      rw [h3, h4]
      simp only [resOf, resAll, resOne, resCons, resTup, resTmp, h1, h2, AV.isImm, if_true]
      rfl
    simp only [go_sem, seval, ItemD.av_eq, ItemD.cells, hl, List.length_map]
    rcases Decidable.em (it.text = []) with htx | htx
    · rw [htx]
      rcases Decidable.em (16 ≤ d) with hd1 | hd1
      · have e1 : decide ((d : Int) ≥ 16) = true := decide_eq_true (by omega)
        simp only [go_sem, seval, e1, hl]
        refine bad rfl rfl (by rw [hkl, if_pos (.inr hd1)]) ?_
        rw [okI_list d hl, decide_eq_false (show ¬ d < 16 by omega)]; simp
      · have e1 : decide ((d : Int) ≥ 16) = false := decide_eq_false (by omega)
        have hk : longK d it = if okIs (d + 1) it.items = true ∧ (raws it.items).length ≤ 65536 then (raws it.items).length + aheadN (raws it.items).length else 0 := by
          rw [hkl, if_neg (by simp [htx]; omega)]
        have ho : okI d it = (okIs (d + 1) it.items && decide ((rawOf it).length ≤ 65536)) := by
          rw [okI_list d hl, htx, decide_eq_true (show d < 16 by omega)]; simp
        have hrl : (rawOf it).length = (raws it.items).length + aheadN (raws it.items).length := by rw [rawOf_list hl, List.length_append, headB_len]; omega
        have w1 : IntKind.i64.wrap ((d : Int) + 1) = ((d + 1 : Nat) : Int) := wi64_nat d (by omega)
        simp only [go_sem, seval, e1, hl, List.length_map]
        refine ex_iter [1, 2, 7, 60, 61, 62, 63] (fun i : Nat => ⟨[(1, .int .i64 d), (2, .var 2 0), (7, .int .i64 (raws (it.items.take i)).length), (60, .var 2 2), (61, .sl false 3 (it.items.map ItemD.av)), (62, .int .i64 it.items.length), (63, .int .i64 i)], [(2, [.bool true, .str [], .sl false 3 (it.items.map ItemD.av)])], []⟩)
          (fun i => i ≤ it.items.length ∧ okIs (d + 1) (it.items.take i) = true ∧ (raws (it.items.take i)).length ≤ 65536) (fun i => it.items.length - i) 0 ?_ ?_ ?_
        · simp only [ASt.keep, consIf, keepL, keepV, AV.isBot, List.contains_cons, List.contains_nil, Nat.reduceBEq, Bool.or_false, Bool.false_or, Bool.or_true, Bool.true_or, beq_self_eq_true, Bool.false_eq_true, ↓reduceIte, if_false, if_true]
          rfl
        · exact ⟨Nat.zero_le _, by rw [List.take_zero, okIs_nil], by rw [List.take_zero, raws_nil]; simp⟩
        · rintro r i ⟨hi, hok, hlen⟩ next
          simp only [go_sem, seval]
          refine ex_br (fun hc => ?_) (fun hc => ?_)
          · have hlt : i < it.items.length := by simpa using hc
            obtain ⟨x, ex⟩ : ∃ x, it.items[i]? = some x := ⟨_, List.getElem?_eq_getElem hlt⟩
            have hm := List.mem_of_getElem? ex
            have hx := ih x hm (by omega)
            rw [ItemD.av_eq] at hx
            have hkx := longK_le (d + 1) x
            have hsnoc : it.items.take (i + 1) = it.items.take i ++ [x] := by rw [List.take_add_one, ex]; rfl
            have hraw : raws (it.items.take (i + 1)) = raws (it.items.take i) ++ rawOf x := by rw [hsnoc, raws_append, raws_cons, raws_nil, List.append_nil]
            have hok2 : okI (d + 1) x = true → okIs (d + 1) (it.items.take (i + 1)) = true := fun hox => by
              rw [hsnoc]
              refine okIs_all fun y hy => ?_
              rcases List.mem_append.1 hy with hy | hy
              · exact okIs_mem hok y hy
              · rw [List.mem_singleton.1 hy]; exact hox
            have w2 : IntKind.i64.wrap (((raws (it.items.take i)).length : Int) + (longK (d + 1) x : Int)) = (((raws (it.items.take i)).length + longK (d + 1) x : Nat) : Int) := by rw [wi64 (by omega) (by omega)]; omega
            cases hox : okI (d + 1) x with
            | true =>
              have hkk := longK_ok hox
              rw [hox, hkk] at hx
              rw [hkk] at w2
              rcases Decidable.em ((raws (it.items.take i)).length + (rawOf x).length > 65536) with hg | hg
              · have e2 : decide ((((raws (it.items.take i)).length + (rawOf x).length : Nat) : Int) > 65536) = true := decide_eq_true (by omega)
                simp only [go_sem, seval, List.length_map, List.getElem?_map, ex, Int.toNat_natCast, ItemD.av_eq, ItemD.cells]
                repeat with_reducible refine And.intro (by first | omega | (simp only [List.length_cons, List.length_append, List.length_nil, List.length_map, List.length_take, List.length_drop, List.length_set]; omega)) ?_
                try simp only [go_sem, seval, ItemD.cells, w1]
                refine ex_call (by exact hx) ?_
                simp only [go_sem, seval, w2, e2]
                have hbig : ¬ (raws it.items).length ≤ 65536 := by
                  have e3 : raws it.items = raws (it.items.take (i + 1)) ++ raws (it.items.drop (i + 1)) := by rw [← raws_append, List.take_append_drop]
                  rw [e3, List.length_append, hraw, List.length_append]
                  omega
                refine bad rfl rfl (by rw [hk, if_neg (fun h => hbig h.2)]) ?_
                rw [ho, decide_eq_false (by omega)]; simp
              · have e2 : decide ((((raws (it.items.take i)).length + (rawOf x).length : Nat) : Int) > 65536) = false := decide_eq_false (by omega)
                simp only [go_sem, seval, List.length_map, List.getElem?_map, ex, Int.toNat_natCast, ItemD.av_eq, ItemD.cells]
                repeat with_reducible refine And.intro (by first | omega | (simp only [List.length_cons, List.length_append, List.length_nil, List.length_map, List.length_take, List.length_drop, List.length_set]; omega)) ?_
                try simp only [go_sem, seval, ItemD.cells, w1]
                refine ex_call (by exact hx) ?_
                simp only [go_sem, seval, w2, e2]
                refine next (i + 1) _ ⟨by omega, hok2 hox, by rw [hraw, List.length_append]; omega⟩ (by omega) ?_
                rw [hraw, List.length_append, ← wi64_nat i (by omega)]
                simp only [ASt.keep, consIf, keepL, keepV, AV.isBot, List.contains_cons, List.contains_nil, Nat.reduceBEq, Bool.or_false, Bool.false_or, Bool.or_true, Bool.true_or, beq_self_eq_true, Bool.false_eq_true, ↓reduceIte, if_false, if_true]
            | false =>
              rw [hox] at hx
              simp only [go_sem, seval, List.length_map, List.getElem?_map, ex, Int.toNat_natCast, ItemD.av_eq, ItemD.cells]
              repeat with_reducible refine And.intro (by first | omega | (simp only [List.length_cons, List.length_append, List.length_nil, List.length_map, List.length_take, List.length_drop, List.length_set]; omega)) ?_
              try simp only [go_sem, seval, ItemD.cells, w1]
              refine ex_call (by exact hx) ?_
              simp only [go_sem, seval, w2]
              have hbad : okIs (d + 1) it.items = false := by
                cases hq : okIs (d + 1) it.items with
                | false => rfl
                | true => rw [okIs_mem hq x hm] at hox; cases hox
              refine bad rfl rfl (by rw [hk, if_neg (fun h => by rw [hbad] at h; cases h.1)]) ?_
              rw [ho, hbad]; rfl
          · have hge : i = it.items.length := by simp at hc; omega
            subst hge
            rw [List.take_length] at hok hlen ⊢
            have hah := ahead_le (n := (raws it.items).length) (by omega)
            have w3 : IntKind.i64.wrap (((raws it.items).length : Int) + (aheadN (raws it.items).length : Int)) = (((raws it.items).length + aheadN (raws it.items).length : Nat) : Int) := by rw [wi64 (by omega) (by omega)]; omega
            rw [hk, if_pos ⟨hok, hlen⟩, ho, hok, Bool.true_and, hrl]
            simp only [go_sem, seval]
            refine ex_call (by exact c_item_ahead (raws it.items).length (by omega)) ?_
            have e3 : decide ((((raws it.items).length + aheadN (raws it.items).length : Nat) : Int) ≤ 65536) = decide ((raws it.items).length + aheadN (raws it.items).length ≤ 65536) := decide_congr (by omega)
            simp only [go_sem, seval, w3, e3]
            refine finTup ?_
            show resOf _ _ [.tmp 4, .tmp 5] = _
            simp only [go_sem, seval]
    · have e1 : (it.text == ([] : List UInt8)) = false := by simpa using htx
      rw [e1]
      simp only [go_sem, seval, hl]
      refine bad rfl rfl (by rw [hkl, if_pos (.inl htx)]) ?_
      rw [okI_list d hl]
      cases hq : it.text with
      | nil => exact absurd hq htx
      | cons a l => rfl
termination_by SizeOf.sizeOf it
decreasing_by exact item_lt hx
end Go.Proofs.Ytpepfhbfooeoeaa.VA
end
section
namespace Go.Proofs.Ytpepfhbfooeoeaa.VA
section
variable {F : Fx} {I : Imm} {own : Nat → Option Loc} {σ : ASt} {a : Act} {w : World} {C : Cfg} {K : ASt → Prop} {Q : Exit → Act → World → Prop}

theorem spo_of (hC : F.C = C) (hns : ∀ f, C.spc f = false) : F.spo := fun ⟨f, e⟩ => by rw [hC, hns f] at e; cases e
theorem reg_in (hok : CfgOk C) {id : Nat} {ops : Array Oper} (hnd : noDeferB ops = true) (hC : F.C = C) (hop : F.open) (h : RI F I own σ a w) (hw : aops C ops.toList K ops.toList σ) (hL : ¬ LetsOut Q) (hQ : ∀ a w, Post F K a w → Q .normal a w) (hns : ∀ f, C.spc f = false := by exact fun _ => rfl) :
    (Code.region id ops false).wpIn (fen none) 0 C.P Q a w := region_in (noDefer_of hnd) hL (aops_ok hC hok hop (spo_of hC hns) hQ ops.toList σ I own a w h hw)
/-- One operation of a region. -/
theorem op_in (hok : CfgOk C) {ops : List Oper} {rest : List Oper} {o : Oper} (hd : ∀ c, o.op ≠ .defer c) (hC : F.C = C) (hop : F.open) (h : RI F I own σ a w) (hw : aops C ops K [o] σ)
    (hn : ∀ a w, Post F K a w → wpListIn (fen none) 0 C.P ops.toArray Q rest a w) (hns : ∀ f, C.spc f = false := by exact fun _ => rfl) : wpListIn (fen none) 0 C.P ops.toArray Q (o :: rest) a w := by
  have hs := step_ok (Q := Q) (ops := ops.toArray) (K := K) hC hok (fun τ _ => OkLk.of_open hop (spo_of hC hns) τ o) h hw
  unfold wpListIn
  split
  · rename_i hwd
    exact Oper.wpIn_mono hn (oper_in hd (hs.1 hwd))
  · rename_i hwd
    exact ⟨fun _ _ => trivial, hn _ _ (hs.2 (by simpa using hwd))⟩
/-- A call of yield. -/
theorem yield_in {P : Program} {ops : Array Oper} {rest : List Oper} {o : Oper} (hg : o.guard = none) {x y : Operand} {T : TypeId} (hop : o.op = .call { callee := .value x, args := #[y], argTypes := #[T] })
    {l : Nat} (hx : a.eval x = .func (.yield l) #[] #[]) {R : Bool → World → Prop} (hr : RoundW P l (a.eval y) w R) (hn : ∀ b w', R b w' → wpListIn (fen none) 0 P ops Q rest (a.put o.dst (.bool b)) w') :
    wpListIn (fen none) 0 P ops Q (o :: rest) a w := by
  obtain ⟨f, tmps, assign, body, h1, h2⟩ := hr
  have hrun : (o.semAt none a.eval).run P w = .ok (.round l f tmps assign body) w := by
    rw [Oper.semAt_none]
    unfold execOp
    rw [hop]
    generalize a.eval = ρ at hx h1 ⊢
    simp [resolve, invoke, hx, go_sem, h1]
  unfold wpListIn
  rw [if_pos (by simp [Region.wanted, hg])]
  refine ⟨fun _ _ => trivial, ?_⟩
  show o.uponIn (fen none) 0 P a _ Q ((o.semAt none a.eval).run P w)
  rw [hrun]
  refine ⟨fun e => (Bool.false_ne_true e).elim, RoundIn.mono h2 fun e w' he => ?_⟩
  obtain ⟨b, rfl, hb⟩ := he
  exact hn b w' hb

/-- The base of a walk from here on: nothing that lies is turned. -/
def bare (C : Cfg) (w : World) (I : Imm) : Fx := ⟨C, w, I, fun _ => False, fun _ => false, fun _ => False, [], #[], fun _ => True⟩
theorem bare_fix (hfix : C.fix = []) {t : Nat} (e : (bare C w I).C.fix.contains t = true) : False := by
  have e : C.fix.contains t = true := e
  rw [hfix] at e
  cases e
theorem bare_open : (bare C w I).open := ⟨fun _ => rfl, fun _ h => h⟩
theorem RI.nil (hI : Imm.ok I w) (hfix : C.fix = []) (hs : a.tmps.size = C.n) (hd : a.defers = []) : RI (bare C w I) I (fun _ => none) ⟨[], [], []⟩ a w where
  st := .nil
  imm := hI
  base := Imm.leRefl I
  inew := fun _ _ _ h => .inl h
  fr := fr_refl _ _
  mko := fun _ _ => trivial
  mine := fun _ _ h => by cases h
  defs := ⟨hd, fun t e => (bare_fix hfix e).elim⟩
  size := hs
  slots := fun l x hx => by cases l <;> cases hx
  boxes := fun k cs hk => by cases hk
  quiet := fun l x hx => by cases l <;> cases hx
  lk := ⟨fun b hb => hb.elim, fun k e => by cases e⟩
/-- Temporaries that never change any more, in a later world. -/
theorem RI.fresh {F0 : Fx} {I0 : Imm} {w0 : World} (h : RI F0 I0 own σ a w0) (hn : F0.C.n = C.n) (hfix : C.fix = []) (hds : F0.ds = []) {a2 : Act} (hs : a2.tmps.size = C.n) (hd : a2.defers = []) (hle : Imm.le I0 I) (hI : Imm.ok I w) (tm : List (Nat × AV))
    (ht : ∀ t x, look tm t = some x → look σ.tmps t = some x ∧ x.isImm = true ∧ a2.tmps[t]? = a.tmps[t]?) : RI (bare C w I) I (fun _ => none) ⟨tm, [], []⟩ a2 w := by
  refine (RI.nil (a := a2) hI hfix hs hd).make bare_open tm (fun _ _ e => by cases e) (fun _ _ e => by cases e) hs ⟨hd, fun t e => (bare_fix hfix e).elim⟩ (fun k cs e => by cases e) fun t x hx => ?_
  obtain ⟨h1, h2, h3⟩ := ht t x hx
  obtain ⟨v, e1, e2⟩ := h.slots (.tmp t) x h1
  exact ⟨v, h3.trans e1, .inr (.inl ⟨h2, ((srep_imm h2).1 e2).mono (fun _ _ => trivial) hle⟩)⟩
theorem RI.rstep {I2 : Imm} {w2 : World} (h : RI (bare C w I) I2 own σ a w2) : RStep w I [] w2 I2 [] :=
  ⟨⟨h.fr.os, h.fr.tape, h.fr.output, h.fr.size, fun k hk _ => h.fr.block k hk id, h.fr.new⟩, h.base, h.imm, fun b o u e => by
    rcases h.inew b o u e with q | q | q
    · exact .inl q
    · exact .inr (.inl q)
    · exact q.elim, fun g hg => by cases hg⟩
end
end Go.Proofs.Ytpepfhbfooeoeaa.VA
end
section
namespace Go.Proofs.Ytpepfhbfooeoeaa.VA
set_option maxRecDepth 10000
set_option maxHeartbeats 400000

theorem c_Each (it : ItemD) : Contract Try.prog 138 [it.av] (.ext (cloP 147 it.cells)) := by
  refine contract_of (C := cf 4 [1, 2] (fun _ => [])) (cf_ok _ _ _) (fn := Try.f138) Try.func138 (by kernel_rfl) rfl (by kernel_rfl) (by simp [cf]) (plain1 it.plain) (by decide) (noCell (by kernel_rfl)) ?_
  simp only [go_sem, seval, ItemD.av_eq, ItemD.cells]
  refine finOne ?_ (fun _ e => by cases e)
  show resOf _ _ [.tmp 2] = _
  simp only [go_sem, seval]
/-- What Each hands over. -/
def eachOf (it : ItemD) : List AV := if it.list = true then it.items.map ItemD.av else []
/-- The value of yield. -/
def yP (l : Nat) : Imm → Value → Prop := fun _ v => v = .func (.yield l) #[] #[]
def eachTm (l : Nat) (it : ItemD) (i : Nat) : List (Nat × AV) := [(0, .ext (yP l)), (9, .sl false 3 (it.items.map ItemD.av)), (10, .int .i64 it.items.length), (11, .int .i64 i)]
theorem put_same {a : Act} {t : Nat} {v : Value} (h : a.tmps[t]? = some v) : a.put (some t) v = a := by
  cases a with
  | mk tmps defers =>
    show Act.mk (tmps.setIfInBounds t v) defers = Act.mk tmps defers
    congr 1
    refine Array.ext_getElem? fun i => ?_
    by_cases e : t = i
    · subst e
      have hlt := (Array.getElem?_eq_some_iff.1 h).1
      rw [Array.getElem?_setIfInBounds_self_of_lt hlt]
      exact h.symm
    · rw [Array.getElem?_setIfInBounds_ne e]
theorem eval_tmp {a : Act} {t : Nat} {v : Value} (h : a.tmps[t]? = some v) : a.eval (.tmp t) = v := by
  simp [Act.eval, h]
section
variable {F : Fx} {I : Imm} {own : Nat → Option Loc} {σ : ASt} {a : Act} {w : World}
theorem RI.bool (h : RI F I own σ a w) {t : Nat} {b : Bool} (hl : look σ.tmps t = some (.bool b)) : a.eval (.tmp t) = .bool b := by
  obtain ⟨v, h1, h2⟩ := h.slots (.tmp t) _ hl
  have h2 := (srep_imm rfl).1 h2
  cases h2
  exact eval_tmp h1
theorem RI.val (h : RI F I own σ a w) {t : Nat} {x : AV} (hi : x.isImm = true) (hl : look σ.tmps t = some x) : AR F.mo I x (a.eval (.tmp t)) := by
  obtain ⟨v, h1, h2⟩ := h.slots (.tmp t) _ hl
  rw [eval_tmp h1]
  exact (srep_imm hi).1 h2
end
theorem plainVs_one {k : Nat} {cs : List AV} (h : ∀ c, c ∈ cs → c.plainV) : plainVs [(k, cs)] := fun j ds hj c hc => by
  simp only [look] at hj
  split at hj
  · cases hj; exact h c hc
  · cases hj
theorem all_nil : ∀ c, c ∈ ([] : List AV) → c.plainV := fun c hc => by cases hc
theorem all_cons {x : AV} {xs : List AV} (h : x.plainV) (hx : ∀ c, c ∈ xs → c.plainV) : ∀ c, c ∈ x :: xs → c.plainV := fun c hc => by
  rcases List.mem_cons.1 hc with rfl | hc
  · exact h
  · exact hx c hc
theorem plainV_of {x : AV} (h : Plain x) : x.plainV := by
  cases x <;> first | exact h | trivial
theorem look_cons {α : Type} {t k : Nat} {x y : α} {r : List (Nat × α)} (h : look ((k, y) :: r) t = some x) : (t = k ∧ x = y) ∨ look r t = some x := by
  unfold look at h
  split at h
  · rename_i e
    cases h
    exact .inl ⟨(by simpa using e), rfl⟩
  · exact .inr h
noncomputable def CE : Cfg := cf 21 [0, 4, 7, 9, 10, 11, 12, 15, 16, 17, 18, 19] (fun _ => [])
theorem iter_each (it : ItemD) (h : it.ok) : Iter Try.prog (cloP 147 it.cells) (eachOf it) := by
  rintro J v ⟨b, rfl, har⟩
  refine ⟨_, _, rfl, fun args w => by simp [go_sem], ?_⟩
  intro l Inv Stop gs I w hI hJ hgs h0 hstep hsstop hround
  have hlen := h.len
  unfold reachBytes at hlen
  have hok : CfgOk CE := cf_ok _ _ _
  have hfix : CE.fix = [] := rfl
  have hn : CE.n = 21 := rfl
  have hP : CE.P = Try.prog := rfl
  refine callsIn_wide.1 (callsIn_of_wp (F := Fence.wide) (n := 0) Try.func147 rfl trivial ?_)
  obtain ⟨R, hR⟩ : ∃ R : Ending → World → Prop, R = fun e w' => ∃ v gs I, e = .returned v ∧ (Inv (eachOf it).length gs I w' ∨ Stop gs I w') := ⟨_, rfl⟩
  rw [← hR]
  obtain ⟨Q, hQ⟩ : ∃ Q, Q = bodyPost Try.prog Try.f147 R := ⟨_, rfl⟩
  rw [← hQ]
  have hout : ∀ a w, ¬ Q .outgrown a w := fun a w e => by
    rw [hQ] at e
    have e : R .outgrown w := e
    rw [hR] at e
    obtain ⟨_, _, _, e, _⟩ := e
    cases e
  have hL0 : ¬ LetsOut Q := fun ⟨a, w, e⟩ => hout a w e
  have fin : ∀ (a : Act) (W : World) gs I', a.defers = [] → (Inv (eachOf it).length gs I' W ∨ Stop gs I' W) → (a.defers = [] ∧ ∃ v, (results Try.f147 a.tmps).run Try.prog W = .ok v W ∧ R (.returned v) W) := fun a W gs I' hd hi =>
    ⟨hd, .tuple #[], run_results (us := []) (by simp [go_sem]), by rw [hR]; exact ⟨_, gs, I', rfl, hi⟩⟩
  have finR : ∀ (a : Act) (W : World) gs I', a.defers = [] → (Inv (eachOf it).length gs I' W ∨ Stop gs I' W) → Q .ret a W := fun a W gs I' hd hi => by rw [hQ]; exact fin a W gs I' hd hi
  have finN : ∀ (a : Act) (W : World) gs I', a.defers = [] → (Inv (eachOf it).length gs I' W ∨ Stop gs I' W) → Q .normal a W := fun a W gs I' hd hi => by rw [hQ]; exact fin a W gs I' hd hi
  clear hQ
  obtain ⟨slv, hslv⟩ : ∃ slv : AV, slv = .sl false 3 [.agg it.cells] := ⟨_, rfl⟩
  have har2 : AR (fun _ => True) I (.sl false 3 [.agg it.cells]) (.slice (some ⟨b, 0, none⟩) 1 1) := (har : AR (fun _ => True) J (.sl false 3 [.agg it.cells]) _).mono (fun _ h => h) hJ
  -- the begin
  obtain ⟨yv, hyv⟩ : ∃ yv : Value, yv = .func (.yield l) #[] #[] := ⟨_, rfl⟩
  obtain ⟨pv, hpv⟩ : ∃ pv : Value, pv = .pointer (some ⟨b, 0, none⟩) := ⟨_, rfl⟩
  rw [← hyv, ← hpv]
  rw [show Try.f147.ntmps - (#[yv] ++ #[pv] : Array Value).size = 19 from by simp]
  obtain ⟨A, hA⟩ : ∃ A : Array Value, A = #[yv] ++ #[pv] ++ Array.replicate 19 undef := ⟨_, rfl⟩
  have hA0 : A[0]? = some yv := by rw [hA]; simp
  have hA1 : A[1]? = some pv := by rw [hA]; simp
  have hAs : A.size = CE.n := by rw [hA, hn]; simp
  rw [← hA]
  have hst : RI (bare CE w I) I (fun _ => none) ⟨[(0, .ext (yP l)), (1, .elt (.sl false 3 [.agg it.cells]) 0 0)], [], []⟩ { tmps := A, defers := [] } w := by
    have e0 := RI.nil (C := CE) (a := { tmps := A, defers := [] }) hI hfix hAs rfl
    have hm : ∀ t, t < 21 → (bare CE w I).C.may t = true := fun t ht => by
      show (decide (t < CE.n) && !CE.fix.contains t) = true
      rw [hfix, hn]; simp [ht]
    have e1 := e0.put (t := 0) (x := .ext (yP l)) (v := yv) (hm 0 (by decide)) rfl (fun _ _ _ e => by cases e) (fun _ e => by cases e) ((srep_imm rfl).2 (.ext _ I _ (fun _ _ _ e => e) (by rw [hyv]; rfl) hyv))
    rw [put_same hA0] at e1
    have e2 := e1.put (t := 1) (x := .elt (.sl false 3 [.agg it.cells]) 0 0) (v := pv) (hm 1 (by decide)) rfl (fun _ _ _ e => by cases e) (fun _ e => by cases e) ⟨b, 0, 1, 1, har2, hpv⟩
    rw [put_same hA1] at e2
    exact e2
  refine wpIn_seq (wpIn_seq ?_)
  refine reg_in (C := CE) (K := fun τ => τ = ⟨[(0, .ext (yP l)), (1, .elt (.sl false 3 [.agg it.cells]) 0 0), (5, .elt (.sl false 3 [.agg it.cells]) 0 0), (6, .bool it.list), (7, .bool (!it.list))], [], []⟩) hok (by kernel_rfl) rfl bare_open hst ?_ (fun ⟨a, w, e⟩ => hout a w e) ?_
  · show exec CE (fun _ τ => τ = _) [.ops _ _] .normal _
    simp only [go_sem, seval, CE, ItemD.cells]
  rintro a1 w1 ⟨I1, own1, τ, q1, rfl⟩
  have hd1 : a1.defers = [] := q1.defs.1
  show Code.wpIn _ _ _ _ _ a1 w1
  cases hl : it.list with
  | false =>
    refine wpIn_cond_true (by rw [q1.bool (t := 7) rfl, hl]; rfl) (wpIn_ret ?_)
    refine finR a1 w1 gs I1 hd1 (.inl ?_)
    rw [show (eachOf it).length = 0 by unfold eachOf; rw [hl]; rfl]
    exact hstep 0 gs I w I1 w1 h0 q1.rstep
  | true =>
    have heach : eachOf it = it.items.map ItemD.av := by unfold eachOf; rw [hl]; rfl
    have hel : (eachOf it).length = it.items.length := by rw [heach, List.length_map]
    refine wpIn_cond_false (by rw [q1.bool (t := 7) rfl, hl]; rfl) (wpIn_skip ?_)
    show Code.wpIn _ _ _ _ _ a1 w1
    refine wpIn_seq ?_
    refine reg_in (C := CE) (K := fun τ => look τ.tmps 0 = some (.ext (yP l)) ∧ look τ.tmps 9 = some (.sl false 3 (it.items.map ItemD.av)) ∧ look τ.tmps 10 = some (.int .i64 it.items.length) ∧ look τ.tmps 11 = some (.int .i64 (0 : Nat))) hok (by kernel_rfl) rfl bare_open q1 ?_ (fun ⟨a, w, e⟩ => hout a w e) ?_
    · show exec CE (fun _ τ => look τ.tmps 0 = some (.ext (yP l)) ∧ look τ.tmps 9 = some (.sl false 3 (it.items.map ItemD.av)) ∧ look τ.tmps 10 = some (.int .i64 it.items.length) ∧ look τ.tmps 11 = some (.int .i64 (0 : Nat))) [.ops _ _] .normal _
      simp only [go_sem, seval, CE, ItemD.cells, List.length_map, Int.cast_ofNat_Int]
    rintro a2 w2 ⟨I2, own2, τ, q2, k0, k9, k10, k11⟩
    have heads : ∀ (i : Nat) (a : Act) (w' w0 : World) (I' I0 : Imm) (own : Nat → Option Loc) (τ : ASt), RI (bare CE w0 I0) I' own τ a w' → look τ.tmps 0 = some (.ext (yP l)) → look τ.tmps 9 = some (.sl false 3 (it.items.map ItemD.av)) → look τ.tmps 10 = some (.int .i64 it.items.length) →
        look τ.tmps 11 = some (.int .i64 (i : Nat)) → RI (bare CE w' I') I' (fun _ => none) ⟨eachTm l it i, [], []⟩ a w' := by
      intro i a w' w0 I' I0 own τ q k0 k9 k10 k11
      refine q.fresh (C := CE) rfl hfix rfl q.size q.defs.1 (Imm.leRefl _) q.imm _ fun t x hx => ?_
      unfold eachTm at hx
      rcases look_cons hx with ⟨rfl, rfl⟩ | hx
      · exact ⟨k0, rfl, rfl⟩
      rcases look_cons hx with ⟨rfl, rfl⟩ | hx
      · exact ⟨k9, rfl, rfl⟩
      rcases look_cons hx with ⟨rfl, rfl⟩ | hx
      · exact ⟨k10, rfl, rfl⟩
      rcases look_cons hx with ⟨rfl, rfl⟩ | hx
      · exact ⟨k11, rfl, rfl⟩
      cases hx
    have hst2 := heads 0 a2 w2 w I2 I own2 τ q2 k0 k9 k10 k11
    have hI2 : Inv 0 gs I2 w2 := hstep 0 gs I w I2 w2 h0 q2.rstep
    have hg2 : ∀ g, g ∈ gs → g < w2.heap.size := fun g hg => Nat.lt_of_lt_of_le (hgs g hg) q2.fr.size
    clear q2 k0 k9 k10 k11 hst q1
    show Code.wpIn _ _ _ _ _ a2 w2
    refine wpIn_block (wpIn_loop_rounds (it.items.length + 1) ?_)
    refine (fun key => key _ 0 gs I2 a2 w2 (by omega) (Nat.zero_le _) hst2 hI2 hg2 : (∀ m i gs I' a w', it.items.length + 1 - i ≤ m → i ≤ it.items.length → RI (bare CE w' I') I' (fun _ => none) ⟨eachTm l it i, [], []⟩ a w' → Inv i gs I' w' → (∀ g, g ∈ gs → g < w'.heap.size) → Code.roundsIn _ _ _ _ _ m a w') → _) ?_
    intro m
    induction m with
    | zero => intro i gs I' a w' h1 h2; omega
    | succ m ih =>
      intro i gs I' a w' h1 h2 q hi hg
      rw [roundsIn_succ]
      refine wpIn_seq (reg_in (C := CE) (K := fun τ => τ = ⟨[(0, .ext (yP l)), (9, .sl false 3 (it.items.map ItemD.av)), (10, .int .i64 it.items.length), (11, .int .i64 i), (12, .bool (decide ((i : Int) < it.items.length)))], [], []⟩) hok (by kernel_rfl) rfl bare_open q ?_ (fun ⟨a, w, e⟩ => hout a w e) ?_)
      · show exec CE (fun _ τ => τ = _) [.ops _ _] .normal _
        unfold eachTm
        simp only [go_sem, seval, CE]
      rintro a3 w3 ⟨I3, own3, τ, q3, rfl⟩
      have hd3 : a3.defers = [] := q3.defs.1
      have hi3 : Inv i gs I3 w3 := hstep i gs I' w' I3 w3 hi q3.rstep
      have hg3 : ∀ g, g ∈ gs → g < w3.heap.size := fun g h => Nat.lt_of_lt_of_le (hg g h) q3.fr.size
      refine wpIn_seq ?_
      rcases Decidable.em (i < it.items.length) with hlt | hge
      case inr =>
        have e : i = it.items.length := by omega
        subst e
        refine wpIn_cond_false (by rw [q3.bool (t := 12) rfl]; simp) (wpIn_exit ?_)
        exact finN a3 w3 gs I3 hd3 (.inl (by rw [hel]; exact hi3))
      obtain ⟨x, ex⟩ : ∃ x, it.items[i]? = some x := ⟨_, List.getElem?_eq_getElem hlt⟩
      have hxo := h.all x (List.mem_of_getElem? ex)
      refine wpIn_cond_true (by rw [q3.bool (t := 12) rfl]; simp [hlt]) (wpIn_skip ?_)
      refine wpIn_seq (wpIn_block ?_)
      refine wpIn_seq (reg_in (C := CE) (K := fun τ => τ = ⟨[(0, .ext (yP l)), (4, .var 4 0), (9, .sl false 3 (it.items.map ItemD.av)), (10, .int .i64 it.items.length), (11, .int .i64 i), (12, .bool (decide ((i : Int) < it.items.length))), (13, .elt (.sl false 3 (it.items.map ItemD.av)) i 0), (14, .agg x.cells)], [(4, x.cells)], []⟩) hok (by kernel_rfl) rfl bare_open q3 ?_ (fun ⟨a, w, e⟩ => hout a w e) ?_)
      · show exec CE (fun _ τ => τ = _) [.ops _ _] .normal _
        simp only [go_sem, seval, CE, List.length_map, List.getElem?_map, ex, Int.toNat_natCast, ItemD.av_eq]
        repeat with_reducible refine And.intro (by first | omega | (simp only [List.length_cons, List.length_append, List.length_nil, List.length_map, List.length_take, List.length_drop, List.length_set]; omega)) ?_
        simp only [go_sem, seval, CE, cellsI_len]
      rintro a4 w4 ⟨I4, own4, τ, q4, rfl⟩
      refine wpIn_seq (wpIn_region_lit ?_)
      refine op_in (C := CE) (K := fun τ => τ = ⟨[(0, .ext (yP l)), (4, .var 4 0), (9, .sl false 3 (it.items.map ItemD.av)), (10, .int .i64 it.items.length), (11, .int .i64 i), (12, .bool (decide ((i : Int) < it.items.length))), (13, .elt (.sl false 3 (it.items.map ItemD.av)) i 0), (14, .agg x.cells), (15, .ext (yP l))], [(4, x.cells)], []⟩) hok (fun c e => by cases e) rfl bare_open q4 ?_ ?_
      · show exec CE (fun _ τ => τ = _) [.ops _ [_]] .normal _
        simp only [go_sem, seval, CE, cellsI_len]
      rintro a5 w5 ⟨I5, own5, τ, q5, rfl⟩
      refine op_in (C := CE) (K := fun τ => τ = ⟨[(0, .ext (yP l)), (4, .var 4 0), (9, .sl false 3 (it.items.map ItemD.av)), (10, .int .i64 it.items.length), (11, .int .i64 i), (12, .bool (decide ((i : Int) < it.items.length))), (13, .elt (.sl false 3 (it.items.map ItemD.av)) i 0), (14, .agg x.cells), (15, .ext (yP l)), (16, .agg x.cells)], [(4, x.cells)], []⟩) hok (fun c e => by cases e) rfl bare_open q5 ?_ ?_
      · show exec CE (fun _ τ => τ = _) [.ops _ [_]] .normal _
        simp only [go_sem, seval, CE, ItemD.cells]
      rintro a6 w6 ⟨I6, own6, τ, q6, rfl⟩
      refine op_in (C := CE) (K := fun τ => τ = ⟨[(0, .ext (yP l)), (4, .var 4 0), (9, .sl false 3 (it.items.map ItemD.av)), (10, .int .i64 it.items.length), (11, .int .i64 i), (12, .bool (decide ((i : Int) < it.items.length))), (13, .elt (.sl false 3 (it.items.map ItemD.av)) i 0), (14, .agg x.cells), (15, .ext (yP l)), (16, .agg x.cells), (17, x.av)], [(4, x.cells)], []⟩) hok (fun c e => by cases e) rfl bare_open q6 ?_ ?_
      · show exec CE (fun _ τ => τ = _) [.ops _ [_]] .normal _
        simp only [go_sem, seval, CE, cellsI_len]
        have hc := c_copied x hxo
        rw [show [x.av] = [AV.agg x.cells] by rw [x.av_eq]] at hc
        refine ex_call (by exact hc) ?_
        rw [x.av_eq]
        simp only [go_sem, seval, CE, cellsI_len]
      rintro a7 w7 ⟨I7, own7, τ, q7, rfl⟩
      have hd7 : a7.defers = [] := q7.defs.1
      have hi7 : Inv i gs I7 w7 := hstep i gs I' w' I7 w7 hi q7.rstep
      have hg7 : ∀ g, g ∈ gs → g < w7.heap.size := fun g h => Nat.lt_of_lt_of_le (hg g h) q7.fr.size
      have hy : a7.eval (.tmp 15) = .func (.yield l) #[] #[] := by
        have e := q7.val (t := 15) (x := .ext (yP l)) rfl rfl
        cases e with
        | ext p J' v hJ h1 hp => exact hp
      have hxa := (q7.val (t := 17) (x := x.av) (by rw [x.av_eq]; rfl) rfl).tt
      refine yield_in rfl rfl hy (hround i x.av _ gs I7 w7 (by rw [heach, List.getElem?_map, ex]; rfl) hi7 q7.imm hxa) ?_
      rintro bb w8 ⟨gs8, I8, hs8, hb8⟩
      have q8 : RI (bare CE w8 I8) I8 (fun _ => none) ⟨[(0, .ext (yP l)), (9, .sl false 3 (it.items.map ItemD.av)), (10, .int .i64 it.items.length), (11, .int .i64 i), (18, .bool bb)], [], []⟩ (a7.put (some 18) (.bool bb)) w8 := by
        have e := q7.fresh (C := CE) (a2 := a7.put (some 18) (.bool bb)) rfl hfix rfl (by show (a7.tmps.setIfInBounds 18 _).size = _; rw [Array.size_setIfInBounds]; exact q7.size) hd7 hs8.le hs8.ok (eachTm l it i) (fun t x hx => by
          have hne : ∀ t, t ≠ 18 → (a7.put (some 18) (.bool bb)).tmps[t]? = a7.tmps[t]? := fun t ht => Array.getElem?_setIfInBounds_ne (Ne.symm ht)
          unfold eachTm at hx
          rcases look_cons hx with ⟨rfl, rfl⟩ | hx
          · exact ⟨rfl, rfl, hne _ (by decide)⟩
          rcases look_cons hx with ⟨rfl, rfl⟩ | hx
          · exact ⟨rfl, rfl, hne _ (by decide)⟩
          rcases look_cons hx with ⟨rfl, rfl⟩ | hx
          · exact ⟨rfl, rfl, hne _ (by decide)⟩
          rcases look_cons hx with ⟨rfl, rfl⟩ | hx
          · exact ⟨rfl, rfl, hne _ (by decide)⟩
          cases hx)
        have hlt : 18 < a7.tmps.size := by rw [q7.size]; exact (by decide : 18 < 21)
        have e2 := e.put (t := 18) (x := .bool bb) (v := .bool bb) rfl rfl (fun _ _ _ e => by cases e) (fun _ e => by cases e) ((srep_imm rfl).2 (.bool _))
        rw [put_same (t := 18) (v := .bool bb) (show (a7.tmps.setIfInBounds 18 _)[18]? = _ from Array.getElem?_setIfInBounds_self_of_lt hlt)] at e2
        exact e2
      refine op_in (C := CE) (K := fun τ => τ = ⟨[(0, .ext (yP l)), (9, .sl false 3 (it.items.map ItemD.av)), (10, .int .i64 it.items.length), (11, .int .i64 i), (18, .bool bb), (19, .bool (!bb))], [], []⟩) hok (fun c e => by cases e) rfl bare_open q8 ?_ ?_
      · show exec CE (fun _ τ => τ = _) [.ops _ [_]] .normal _
        simp only [go_sem, seval, CE]
      rintro a9 w9 ⟨I9, own9, τ, q9, rfl⟩
      refine wpListIn_nil ?_
      cases bb with
      | false =>
        refine wpIn_cond_true (q9.bool (t := 19) rfl) (wpIn_ret ?_)
        refine finR a9 w9 gs8 I9 q9.defs.1 (.inr ?_)
        rcases hb8 with ⟨e, _⟩ | ⟨_, e⟩
        · cases e
        · exact hsstop gs8 I8 w8 I9 w9 e q9.rstep
      | true =>
        have hi8 : Inv (i + 1) gs8 I8 w8 := by
          rcases hb8 with ⟨_, e⟩ | ⟨e, _⟩
          · exact e
          · cases e
        refine wpIn_cond_false (q9.bool (t := 19) rfl) (wpIn_skip ?_)
        show Code.wpIn _ _ _ _ _ a9 w9
        refine reg_in (C := CE) (K := fun τ => τ = ⟨[(0, .ext (yP l)), (9, .sl false 3 (it.items.map ItemD.av)), (10, .int .i64 it.items.length), (11, .int .i64 (i + 1 : Nat)), (18, .bool true), (19, .bool (!true)), (20, .int .i64 (i + 1 : Nat))], [], []⟩) hok (by kernel_rfl) rfl bare_open q9 ?_ (fun ⟨a, w, e⟩ => hout a w e) ?_
        · show exec CE (fun _ τ => τ = _) [.ops _ _] .normal _
          rw [← wi64_nat i (by omega)]
          simp only [go_sem, seval, CE]
        rintro aa ww ⟨II, ownn, τ, qq, rfl⟩
        exact ih (i + 1) gs8 II aa ww (by omega) (by omega) (heads (i + 1) aa ww _ _ _ _ _ qq rfl rfl rfl rfl) (hstep _ _ _ _ _ _ hi8 qq.rstep) (fun g hg => Nat.lt_of_lt_of_le (hs8.mine g hg).2 qq.fr.size)
end Go.Proofs.Ytpepfhbfooeoeaa.VA
end
section
namespace Go.Proofs.Ytpepfhbfooeoeaa.VA
set_option maxRecDepth 10000
set_option maxHeartbeats 1000000

theorem c_item_Check (it : ItemD) (h : it.ok) : Contract Try.prog 126 [it.av] (.int .i64 (if okI 0 it = true then 0 else 1)) := by
  have hc := c_item_long it h 0 (by omega)
  rw [ItemD.av_eq] at hc
  refine contract_of (C := cf 12 [1, 2, 4, 11] (fun _ => [])) (cf_ok _ _ _) (fn := Try.f126) Try.func126 (by kernel_rfl) rfl (by kernel_rfl) (by simp [cf]) (plain1 it.plain) (by decide) (noCell (by kernel_rfl)) ?_
  cases ho : okI 0 it with
  | true =>
    rw [ho] at hc
    simp only [go_sem, seval, ItemD.av_eq, ItemD.cells]
    refine ex_call (by exact hc) ?_
    simp only [go_sem, seval]
    refine finOne ?_ (fun _ e => by cases e)
    show resOf _ _ [.tmp 2] = _
    simp only [go_sem, seval]
  | false =>
    rw [ho] at hc
    simp only [go_sem, seval, ItemD.av_eq, ItemD.cells]
    refine ex_call (by exact hc) ?_
    simp only [go_sem, seval]
    refine finOne ?_ (fun _ e => by cases e)
    show resOf _ _ [.tmp 2] = _
    simp only [go_sem, seval]
theorem c_ref4_deep (it : ItemD) (h : it.ok) : Contract Try.prog 129 [it.av] (.int .i64 (deepR it)) := by
  have ih : ∀ x, x ∈ it.items → Contract Try.prog 129 [x.av] (.int .i64 (deepR x)) := fun x hx => c_ref4_deep x (h.all x hx)
  have hn := h.num
  cases hl : it.list with
  | false =>
    refine contract_of (C := cf 32 [1, 2, 3, 4, 7, 11, 14, 19] (fun _ => [])) (cf_ok _ _ _) (fn := Try.f129) Try.func129 (by kernel_rfl) rfl (by kernel_rfl) (by simp [cf]) (plain1 it.plain) (by decide) (noCell (by kernel_rfl)) ?_
    rw [deepR_text hl]
    simp only [go_sem, seval, ItemD.av_eq, ItemD.cells, hl, List.length_map]
    refine ex_br (fun e => ?_) (fun e => ?_)
    · have e : it.items.isEmpty = false := by
        cases hq : it.items with
        | nil => rw [hq] at e; simp at e
        | cons a l => rfl
      rw [e]
      simp only [go_sem, seval]
      refine finOne ?_ (fun _ e => by cases e)
      show resOf _ _ [.tmp 2] = _
      simp only [go_sem, seval]
      try rfl
    · have e : it.items.isEmpty = true := by
        cases hq : it.items with
        | nil => rfl
        | cons a l => rw [hq] at e; simp at e
      rw [e]
      simp only [go_sem, seval]
      refine finOne ?_ (fun _ e => by cases e)
      show resOf _ _ [.tmp 2] = _
      simp only [go_sem, seval]
      try rfl
  | true =>
    refine contract_of (C := cf 32 [1, 2, 3, 4, 7, 11, 14, 19] (fun _ => [])) (cf_ok _ _ _) (fn := Try.f129) Try.func129 (by kernel_rfl) rfl (by kernel_rfl) (by simp [cf]) (plain1 it.plain) (by decide) (noCell (by kernel_rfl)) ?_
    rw [deepR_list hl]
    cases hq : it.text with
    | cons a l =>
      have e1 : ((a :: l) == ([] : List UInt8)) = false := rfl
      simp only [go_sem, seval, ItemD.av_eq, ItemD.cells, hl, hq, List.length_map, e1]
      refine finOne ?_ (fun _ e => by cases e)
      show resOf _ _ [.tmp 2] = _
      simp only [go_sem, seval]
      rfl
    | nil =>
      simp only [go_sem, seval, ItemD.av_eq, ItemD.cells, hl, hq, List.length_map]
      refine ex_iter [1, 3, 4] (fun q : Nat × Nat => ⟨[(1, .var 1 0), (3, .int .i64 (q.2 : Nat)), (4, .int .i64 (q.1 : Nat))], [(1, [.bool true, .str [], .sl false 3 (it.items.map ItemD.av)])], []⟩)
        (fun q => q.1 ≤ it.items.length ∧ q.2 ≤ 16777300 ∧ deepsR q.2 (it.items.drop q.1) = deepsR 0 it.items) (fun q => it.items.length - q.1) (0, 0) ?_ ?_ ?_
      · simp only [ASt.keep, consIf, keepL, keepV, AV.isBot, List.contains_cons, List.contains_nil, Nat.reduceBEq, Bool.or_false, Bool.false_or, Bool.or_true, Bool.true_or, beq_self_eq_true, Bool.false_eq_true, ↓reduceIte, if_false, if_true]
        rfl
      · exact ⟨Nat.zero_le _, by simp only; omega, rfl⟩
      · rintro r ⟨i, n⟩ hinv next
        obtain ⟨hi, hn2, hw⟩ : i ≤ it.items.length ∧ n ≤ 16777300 ∧ deepsR n (it.items.drop i) = deepsR 0 it.items := hinv
        simp only [go_sem, seval, List.length_map]
        refine ex_br (fun hc => ?_) (fun hc => ?_)
        · have hlt : i < it.items.length := by simpa using hc
          obtain ⟨x, ex⟩ : ∃ x, it.items[i]? = some x := ⟨_, List.getElem?_eq_getElem hlt⟩
          have hm := List.mem_of_getElem? ex
          have hx := ih x hm
          have hb := deepR_wt x
          have hb2 := h.all x hm
          unfold ItemD.ok at hb2
          rw [ItemD.av_eq] at hx
          have hdr : deepsR n (it.items.drop i) = deepsR (max n (deepR x)) (it.items.drop (i + 1)) := by
            obtain ⟨h1, rfl⟩ := List.getElem?_eq_some_iff.1 ex
            rw [← List.getElem_cons_drop h1, deepsR_cons]
          simp only [go_sem, seval, List.length_map, List.getElem?_map, ex, Int.toNat_natCast, ItemD.av_eq, ItemD.cells]
          repeat with_reducible refine And.intro (by first | omega | (simp only [List.length_cons, List.length_append, List.length_nil, List.length_map, List.length_take, List.length_drop, List.length_set]; omega)) ?_
          try simp only [go_sem, seval, ItemD.cells]
          refine ex_call (by exact hx) ?_
          simp only [go_sem, seval]
          refine next (i + 1, max n (deepR x)) _ ⟨by simp only; omega, by simp only; omega, by simp only; rw [← hdr]; exact hw⟩ (by simp only; omega) ?_
          simp only
          rw [← wi64_nat i (by omega), ← max_nat]
          simp only [ASt.keep, consIf, keepL, keepV, AV.isBot, List.contains_cons, List.contains_nil, Nat.reduceBEq, Bool.or_false, Bool.false_or, Bool.or_true, Bool.true_or, beq_self_eq_true, Bool.false_eq_true, ↓reduceIte, if_false, if_true]
        · have : i = it.items.length := by simp at hc; omega
          subst this
          rw [List.drop_length, deepsR_nil] at hw
          have w2 : IntKind.i64.wrap ((n : Int) + 1) = ((deepsR 0 it.items + 1 : Nat) : Int) := by rw [← hw]; exact wi64_nat n (by omega)
          simp only [go_sem, seval, w2]
          refine finOne ?_ (fun _ e => by cases e)
          show resOf _ _ [.tmp 2] = _
          simp only [go_sem, seval]
termination_by SizeOf.sizeOf it
decreasing_by exact item_lt hx
theorem c_ref4_raw (it : ItemD) (h : it.ok) : Contract Try.prog 130 [it.av] (.str (rawR it)) := by
  have ih : ∀ x, x ∈ it.items → Contract Try.prog 130 [x.av] (.str (rawR x)) := fun x hx => c_ref4_raw x (h.all x hx)
  have ht := h.text
  have hn := h.num
  cases hl : it.list with
  | false =>
    rw [rawR_text hl, rawOf_text hl]
    have ha := alone_eq it.text
    refine contract_of (C := cf 52 [1, 2, 3, 4, 7, 17, 36] (fun _ => [])) (cf_ok _ _ _) (fn := Try.f130) Try.func130 (by kernel_rfl) rfl (by kernel_rfl) (by simp [cf]) (plain1 it.plain) (by decide) (noCell (by kernel_rfl)) ?_
    have hhead := headB_len it.text.length 128
    have hahead := ahead_le (n := it.text.length) (by omega)
    rcases Decidable.em (it.text.length = 1) with e | e
    · obtain ⟨b, eb⟩ : ∃ b, it.text = [b] := by
        match hq : it.text, e with
        | [b], _ => exact ⟨b, rfl⟩
      have hb : decide ((b.toNat : Int) < 128) = aloneB [b] := by unfold aloneB; exact decide_congr (by omega)
      rw [eb] at ht hhead ⊢
      simp only [go_sem, seval, ItemD.av_eq, ItemD.cells, hl, eb, hb, Int.cast_ofNat_Int]
      refine ex_br (fun h1 => ?_) (fun h1 => ?_)
      · rw [h1]
        simp only [go_sem, seval]
        refine finOne ?_ (fun _ e => by cases e)
        show resOf _ _ [.tmp 2] = _
        simp only [go_sem, seval]
      · rw [h1]
        simp only [go_sem, seval]
        refine ex_draw [] [] (.quiet 0 (.quiet 1 (.quiet 2 (.quiet 4 (.quiet 5 (.one 3 (.quiet 6 (.quiet 7 (.fin))))))))) (by kernel_rfl) ?_
        simp only [go_sem, seval, Int.cast_ofNat_Int]
        refine ex_call (by exact c_ref4_head 1 128 (by omega) (by omega)) ?_
        simp only [go_sem, seval]
        have h9 : (headB 1 128).length = 1 := by rw [headB_len]; rfl
        refine ⟨by omega, ?_⟩
        refine finOne ?_ (fun _ e => by cases e)
        show resOf _ _ [.tmp 2] = _
        simp only [go_sem, seval]
    · have e1 : ((it.text.length : Int) == 1) = false := by simpa using (by omega : ¬ (it.text.length : Int) = 1)
      have e2 : aloneB it.text = false := by rw [ha, decide_eq_false e]; rfl
      rw [e2]
      simp only [go_sem, seval, ItemD.av_eq, ItemD.cells, hl, e1]
      refine ex_draw [] [] (.quiet 0 (.quiet 1 (.quiet 2 (.quiet 4 (.quiet 5 (.one 3 (.quiet 6 (.quiet 7 (.fin))))))))) (by kernel_rfl) ?_
      simp only [go_sem, seval]
      refine ex_call (by exact c_ref4_head it.text.length 128 (by omega) (by omega)) ?_
      simp only [go_sem, seval]
      refine ⟨by omega, ?_⟩
      refine finOne ?_ (fun _ e => by cases e)
      show resOf _ _ [.tmp 2] = _
      simp only [go_sem, seval]
  | true =>
    rw [rawR_list hl]
    have hwts : wts it.items ≤ 16777216 := by have := wt_eq it; unfold ItemD.ok at h; omega
    have hrl := (rawsR_le (xs := it.items) (fun x hx => rawR_le x (h.all x hx)) []).2
    rw [List.length_nil] at hrl
    have hhead := headB_len (rawsR [] it.items).length 192
    have hahead := ahead_le (n := (rawsR [] it.items).length) (by omega)
    refine contract_of (C := cf 52 [1, 2, 3, 4, 7, 17, 36] (fun _ => [])) (cf_ok _ _ _) (fn := Try.f130) Try.func130 (by kernel_rfl) rfl (by kernel_rfl) (by simp [cf]) (plain1 it.plain) (by decide) (noCell (by kernel_rfl)) ?_
    simp only [go_sem, seval, ItemD.av_eq, ItemD.cells, hl]
    refine ex_iter [1, 3, 4] (fun q : Nat × List UInt8 => ⟨[(1, .var 1 0), (3, .str q.2), (4, .int .i64 (q.1 : Nat))], [(1, [.bool true, .str it.text, .sl false 3 (it.items.map ItemD.av)])], []⟩)
      (fun q => q.1 ≤ it.items.length ∧ q.2.length ≤ 4294967296 ∧ rawsR q.2 (it.items.drop q.1) = rawsR [] it.items) (fun q => it.items.length - q.1) (0, []) ?_ ?_ ?_
    · simp only [ASt.keep, consIf, keepL, keepV, AV.isBot, List.contains_cons, List.contains_nil, Nat.reduceBEq, Bool.or_false, Bool.false_or, Bool.or_true, Bool.true_or, beq_self_eq_true, Bool.false_eq_true, ↓reduceIte, if_false, if_true]
      rfl
    · exact ⟨Nat.zero_le _, by simp, rfl⟩
    · rintro r ⟨i, s⟩ hinv next
      obtain ⟨hi, hn2, hw⟩ : i ≤ it.items.length ∧ s.length ≤ 4294967296 ∧ rawsR s (it.items.drop i) = rawsR [] it.items := hinv
      simp only [go_sem, seval, List.length_map]
      refine ex_joinB 36 (decide (i < it.items.length) && decide (s.length ≤ 131072)) ?_ ?_
      · repeat' (first | (refine ex_split (fun h => ?_) (fun h => ?_)) | (with_reducible refine And.intro (by omega) ?_) |
          (simp only [go_sem, seval, List.length_map]))
        all_goals (try simp only [ASt.mk.injEq, List.cons.injEq, Prod.mk.injEq, AV.bool.injEq, true_and, and_true, eq_self])
        all_goals first | (simp_all; done) | (simp_all; omega) | (rw [Bool.eq_iff_iff]; simp only [List.length_map, Bool.or_eq_true, Bool.and_eq_true, Bool.not_eq_true', Bool.not_eq_false', decide_eq_true_eq, decide_eq_false_iff_not, bne_iff_ne, beq_iff_eq, ne_eq, true_iff, iff_true, false_iff, iff_false, Bool.false_eq_true, not_false_eq_true, not_true_eq_false] at *; omega)
      simp only [go_sem, seval]
      refine ex_br (fun hc => ?_) (fun hc => ?_)
      · have hlt : i < it.items.length ∧ s.length ≤ 131072 := by simpa using hc
        obtain ⟨x, ex⟩ : ∃ x, it.items[i]? = some x := ⟨_, List.getElem?_eq_getElem hlt.1⟩
        have hm := List.mem_of_getElem? ex
        have hx := ih x hm
        have hb := rawR_le x (h.all x hm)
        have hb2 := h.all x hm
        unfold ItemD.ok at hb2
        rw [ItemD.av_eq] at hx
        simp only [go_sem, seval, List.length_map, List.getElem?_map, ex, Int.toNat_natCast, ItemD.av_eq, ItemD.cells]
        repeat with_reducible refine And.intro (by first | omega | (simp only [List.length_cons, List.length_append, List.length_nil, List.length_map, List.length_take, List.length_drop, List.length_set]; omega)) ?_
        try simp only [go_sem, seval, ItemD.cells]
        refine ex_call (by exact hx) ?_
        simp only [go_sem, seval]
        refine ⟨by omega, ?_⟩
        refine next (i + 1, s ++ rawR x) _ ⟨by simp only; omega, by simp only [List.length_append]; omega, by simp only; rw [← rawsR_drop ex hlt.2]; exact hw⟩ (by simp only; omega) ?_
        simp only
        rw [← wi64_nat i (by omega)]
        simp only [ASt.keep, consIf, keepL, keepV, AV.isBot, List.contains_cons, List.contains_nil, Nat.reduceBEq, Bool.or_false, Bool.false_or, Bool.or_true, Bool.true_or, beq_self_eq_true, Bool.false_eq_true, ↓reduceIte, if_false, if_true]
      · have e : rawsR [] it.items = s := by
          rw [← hw]
          by_cases h1 : s.length ≤ 131072
          · have : i = it.items.length := by simp [h1] at hc; omega
            rw [this, List.drop_length]; exact rawsR_nil s
          · exact rawsR_end h1
        rw [e] at hrl hhead hahead ⊢
        simp only [go_sem, seval]
        refine ex_call (by exact c_ref4_head s.length 192 (by omega) (by omega)) ?_
        simp only [go_sem, seval]
        refine ⟨by omega, ?_⟩
        refine finOne ?_ (fun _ e => by cases e)
        show resOf _ _ [.tmp 2] = _
        simp only [go_sem, seval]
termination_by SizeOf.sizeOf it
decreasing_by exact item_lt hx
/-- The page's answer. -/
theorem c_ref4_Item (it : ItemD) (h : it.ok) : Contract Try.prog 109 [it.av] (.tup [.str (if okI 0 it = true then rawOf it else []), .bool (okI 0 it)]) := by
  have hd := c_ref4_deep it h
  have hr := c_ref4_raw it h
  rw [ItemD.av_eq] at hd hr
  have hok := deep_ok it 0
  have hrr := rawR_rawOf it h
  have hle := rawR_le it h
  have hle2 := h
  unfold ItemD.ok at hle2
  refine contract_of (C := cf 14 [1, 2, 3, 4, 7, 12] (fun _ => [])) (cf_ok _ _ _) (fn := Try.f109) Try.func109 (by kernel_rfl) rfl (by kernel_rfl) (by simp [cf]) (plain1 it.plain) (by decide) (noCell (by kernel_rfl)) ?_
  rcases Decidable.em (deepR it > 16) with hg | hg
  · have e : okI 0 it = false := by
      cases hq : okI 0 it with
      | false => rfl
      | true => have := (hok.1 hq).1; omega
    have e1 : decide ((deepR it : Int) > 16) = true := decide_eq_true (by omega)
    rw [e]
    simp only [go_sem, seval, ItemD.av_eq, ItemD.cells]
    refine ex_call (by exact hd) ?_
    simp only [go_sem, seval, e1]
    refine finTup ?_
    show resOf _ _ [.tmp 2, .tmp 3] = _
    simp only [go_sem, seval]
  · have e1 : decide ((deepR it : Int) > 16) = false := decide_eq_false (by omega)
    rcases Decidable.em ((rawR it).length > 65536) with hx | hx
    · have e : okI 0 it = false := by
        cases hq : okI 0 it with
        | false => rfl
        | true =>
          have := (hok.1 hq).2
          rcases hrr with h1 | h1
          · rw [h1] at hx; omega
          · omega
      have e2 : decide (((rawR it).length : Int) > 65536) = true := decide_eq_true (by omega)
      rw [e]
      simp only [go_sem, seval, ItemD.av_eq, ItemD.cells]
      refine ex_call (by exact hd) ?_
      simp only [go_sem, seval, e1]
      refine ex_call (by exact hr) ?_
      simp only [go_sem, seval, e2]
      refine finTup ?_
      show resOf _ _ [.tmp 2, .tmp 3] = _
      simp only [go_sem, seval]
    · have h1 : rawR it = rawOf it := by
        rcases hrr with h1 | h1
        · exact h1
        · omega
      have e : okI 0 it = true := hok.2 ⟨by omega, by rw [← h1]; omega⟩
      have e2 : decide (((rawR it).length : Int) > 65536) = false := decide_eq_false (by omega)
      rw [e, if_pos rfl, ← h1]
      simp only [go_sem, seval, ItemD.av_eq, ItemD.cells]
      refine ex_call (by exact hd) ?_
      simp only [go_sem, seval, e1]
      refine ex_call (by exact hr) ?_
      simp only [go_sem, seval, e2]
      refine finTup ?_
      show resOf _ _ [.tmp 2, .tmp 3] = _
      simp only [go_sem, seval]
end Go.Proofs.Ytpepfhbfooeoeaa.VA
end
section
namespace Go.Proofs.Ytpepfhbfooeoeaa.VA
set_option maxRecDepth 10000
set_option maxHeartbeats 1000000

def bytesAv (bs : List UInt8) : AV := .own false 1 (bs.map u8)
theorem bytesAv_plain (bs : List UInt8) : Plain (bytesAv bs) := .own _ _ _ (fun c hc => by obtain ⟨x, _, rfl⟩ := List.mem_map.1 hc; exact .int _ _)
def ownL (f : FuncId) : List Nat := if Nat.beq f 127 = true then [0] else if Nat.beq f 139 = true then [0] else []
theorem ownL_laid : ownL 127 = [0] := rfl
theorem ownL_front : ownL 139 = [0] := rfl
theorem ownL_Each : ownL 138 = [] := rfl
theorem ownL_alone : ownL 140 = [] := rfl
theorem c_laid (it : ItemD) (h : it.ok) (bs : List UInt8) (hb : bs.length ≤ 4294967296) : Contract Try.prog 127 [bytesAv bs, it.av] (bytesAv (bs ++ rawOf it)) := by
  have ih : ∀ x, x ∈ it.items → ∀ bs : List UInt8, bs.length ≤ 4294967296 → Contract Try.prog 127 [bytesAv bs, x.av] (bytesAv (bs ++ rawOf x)) := fun x hx bs hb => c_laid x (h.all x hx) bs hb
  have ht := h.text
  have hn := h.num
  have hle := rawOf_le it h
  have hok := h
  unfold ItemD.ok at hok
  cases hl : it.list with
  | false =>
    refine contract_of (C := cf 36 [0, 3, 4, 5, 6, 7, 11, 12, 22] ( ownL)) (cf_ok _ _ _) (fn := Try.f127) Try.func127 (by kernel_rfl) rfl (by kernel_rfl) (by simp [cf]) (plain2 (bytesAv_plain bs) it.plain) (by decide) (noCell (by kernel_rfl)) ?_
    rw [rawOf_text hl]
    simp only [go_sem, seval, bytesAv, ItemD.av_eq, ItemD.cells, hl, ownL_laid, ownL_front, ownL_Each, ownL_alone]
    refine ex_call (by exact c_item_alone it.text (by omega)) ?_
    cases ha : aloneB it.text with
    | true =>
      rw [if_pos rfl]
      simp only [go_sem, seval, List.length_map]
      repeat with_reducible refine And.intro (by first | omega | (simp only [List.length_cons, List.length_append, List.length_nil, List.length_map, List.length_take, List.length_drop, List.length_set]; omega)) ?_
      refine finOne ?_ (fun _ e => by cases e)
      show resOf _ _ [.tmp 4] = _
      simp only [go_sem, seval, List.map_append]
    | false =>
      rw [if_neg (by simp)]
      have hh := headB_len it.text.length 128
      have hah := ahead_le (n := it.text.length) (by omega)
      simp only [go_sem, seval, ownL_laid, ownL_front, ownL_Each, ownL_alone]
      refine ex_call (by exact c_item_front bs 128 it.text.length (by omega) (by omega) (by omega)) ?_
      simp only [go_sem, seval, List.length_map, List.length_append]
      repeat with_reducible refine And.intro (by first | omega | (simp only [List.length_cons, List.length_append, List.length_nil, List.length_map, List.length_take, List.length_drop, List.length_set]; omega)) ?_
      refine finOne ?_ (fun _ e => by cases e)
      show resOf _ _ [.tmp 4] = _
      simp only [go_sem, seval, List.map_append, List.append_assoc]
  | true =>
    have heach : eachOf it = it.items.map ItemD.av := by unfold eachOf; rw [hl]; rfl
    have hce := c_Each it
    rw [ItemD.av_eq] at hce
    rw [rawOf_list hl]
    rw [rawOf_list hl, List.length_append] at hle
    refine contract_of (C := cf 36 [0, 3, 4, 5, 6, 7, 11, 12, 22] ( ownL)) (cf_ok _ _ _) (fn := Try.f127) Try.func127 (by kernel_rfl) rfl (by kernel_rfl) (by simp [cf]) (plain2 (bytesAv_plain bs) it.plain) (by decide) (noCell (by kernel_rfl)) ?_
    simp only [go_sem, seval, bytesAv, ItemD.av_eq, ItemD.cells, hl, ownL_laid, ownL_front, ownL_Each, ownL_alone]
    refine ex_call (by simpa only [ItemD.cells, hl] using hce) ?_
    simp only [go_sem, seval, ItemD.cells, hl]
    refine ex_range [5] 12 (cloP 147 it.cells) (eachOf it) (fun i => [(5, [bytesAv (raws (it.items.take i))])]) ⟨rfl, rfl, rfl, by decide, by decide, rfl, ?_, iter_each it h, (by rw [List.take_zero, raws_nil]; rfl), plainVs_one (all_cons (plainV_of (bytesAv_plain _)) all_nil), fun _ => rfl⟩ (fun i x hx => ?_) ?_
    · show AV.ext _ = AV.ext (cloP _ it.cells)
      rw [ItemD.cells, hl]
    · obtain ⟨y, ey, rfl⟩ : ∃ y, it.items[i]? = some y ∧ y.av = x := by
        rw [heach, List.getElem?_map, Option.map_eq_some_iff] at hx
        exact hx
      have hm := List.mem_of_getElem? ey
      have hsnoc : raws (it.items.take i) ++ rawOf y = raws (it.items.take (i + 1)) := by
        rw [List.take_add_one, ey]
        show _ = raws (_ ++ [y])
        rw [raws_append, raws_cons, raws_nil, List.append_nil]
      have hpre : (raws (it.items.take (i + 1))).length ≤ (raws it.items).length := by
        conv => rhs; rw [← List.take_append_drop (i + 1) it.items, raws_append, List.length_append]
        omega
      have hy := ih y hm (raws (it.items.take i)) (by rw [← hsnoc, List.length_append] at hpre; omega)
      rw [hsnoc, y.av_eq] at hy
      rw [y.av_eq]
      refine ⟨rfl, ?_⟩
      simp only [go_sem, seval, cellsI_len, bytesAv, ItemD.cells, ownL_laid, ownL_front, ownL_Each, ownL_alone]
      refine ex_call (by exact hy) ?_
      simp only [go_sem, seval, bytesAv]
    · rw [heach, List.length_map, List.take_length]
      have hh := headB_len (raws it.items).length 192
      have hah := ahead_le (n := (raws it.items).length) (by omega)
      simp only [go_sem, seval, bytesAv]
      refine ex_draw [] [] (.quiet 0 (.quiet 1 (.quiet 2 (.quiet 4 (.one 3 (.one 5 (.quiet 6 (.fin)))))))) (by kernel_rfl) ?_
      simp only [go_sem, seval, bytesAv, List.length_map, ownL_laid, ownL_front, ownL_Each, ownL_alone]
      refine ex_call (by exact c_item_front bs 192 (raws it.items).length (by omega) (by omega) (by omega)) ?_
      simp only [go_sem, seval, bytesAv, List.length_map, List.length_append]
      refine ⟨by omega, ?_⟩
      refine finOne ?_ (fun _ e => by cases e)
      show resOf _ _ [.tmp 4] = _
      simp only [go_sem, seval, List.map_append, List.append_assoc]
termination_by SizeOf.sizeOf it
decreasing_by exact item_lt hx
theorem ownL_Check : ownL 126 = [] := rfl
def bytesI (it : ItemD) : List UInt8 := if okI 0 it = true then rawOf it else []
theorem c_item_Bytes (it : ItemD) (h : it.ok) : Contract Try.prog 105 [it.av] (.tup [.str (bytesI it), .int .i64 (if okI 0 it = true then 0 else 1)]) := by
  have hc := c_item_Check it h
  have hl := c_laid it h [] (by simp)
  rw [ItemD.av_eq] at hc hl
  unfold bytesAv at hl
  rw [List.nil_append] at hl
  unfold bytesI
  refine contract_of (C := cf 13 [1, 2, 3, 4, 8] ( ownL)) (cf_ok _ _ _) (fn := Try.f105) Try.func105 (by kernel_rfl) rfl (by kernel_rfl) (by simp [cf]) (plain1 it.plain) (by decide) (noCell (by kernel_rfl)) ?_
  cases ho : okI 0 it with
  | true =>
    rw [ho] at hc
    simp only [go_sem, seval, ItemD.av_eq, ItemD.cells, ownL_Check]
    refine ex_call (by exact hc) ?_
    simp only [go_sem, seval, ownL_laid]
    refine ex_call (by exact hl) ?_
    simp only [go_sem, seval, asU8_map]
    refine finTup ?_
    show resOf _ _ [.tmp 2, .tmp 3] = _
    simp only [go_sem, seval]
  | false =>
    rw [ho] at hc
    simp only [go_sem, seval, ItemD.av_eq, ItemD.cells, ownL_Check]
    refine ex_call (by exact hc) ?_
    simp only [go_sem, seval]
    refine finTup ?_
    show resOf _ _ [.tmp 2, .tmp 3] = _
    simp only [go_sem, seval]
end Go.Proofs.Ytpepfhbfooeoeaa.VA
end
section
namespace Go.Proofs.Ytpepfhbfooeoeaa.VA
set_option maxRecDepth 10000
set_option maxHeartbeats 8000000

theorem c_tx_amount (n : Nat) (hn : n < U) : Contract Try.prog 104 [u n] (.agg [.bool false, .str (bytesOf n), .sl false 3 []]) := by
  have h := c_u256_Text n hn
  unfold u at h
  refine contract_of (C := cf 6 [1, 2] (fun _ => [])) (cf_ok _ _ _) (fn := Try.f104) Try.func104 (by kernel_rfl) rfl (by kernel_rfl) (by simp [cf]) (plain1 (u_plain n)) (by decide) (cellsOk (by kernel_rfl)) ?_
  simp only [go_sem, seval, u]
  refine ex_call (by exact h) ?_
  simp only [go_sem, seval]
  refine finOneD (r' := .agg [.bool false, .str (bytesOf n), .ext nilP]) ?_ (dull_none _ _) (fun _ e => by cases e) (fun _ e => by cases e)
  show resOf _ _ [.cell 2 134] = _
  simp only [go_sem, seval]
theorem c_tx_number (n : Int) (h0 : 0 ≤ n) (h1 : n < 9223372036854775808) : Contract Try.prog 103 [.int .i64 n] (.agg [.bool false, .str (bytesOf n.toNat), .sl false 3 []]) := by
  have h := c_tx_amount n.toNat (lt_U (by omega))
  rw [u_small n.toNat (by omega)] at h
  have w : IntKind.u64.wrap n = (n.toNat : Int) := by rw [wu64 (by omega) (by omega)]; omega
  refine contract_of (C := cf 7 [0, 2] (fun _ => [])) (cf_ok _ _ _) (fn := Try.f103) Try.func103 (by kernel_rfl) rfl (by kernel_rfl) (by simp [cf]) (plain1 (.int _ _)) (by decide) (cellsOk (by kernel_rfl)) ?_
  simp only [go_sem, seval, w]
  refine ex_call (by exact h) ?_
  simp only [go_sem, seval]
  refine finOne ?_ (fun _ e => by cases e)
  show resOf _ _ [.cell 2 134] = _
  simp only [go_sem, seval]
theorem c_ref7_text (s : List UInt8) : Contract Try.prog 107 [.str s] (.agg [.bool false, .str s, .sl false 3 []]) := by
  refine contract_of (C := cf 5 [0, 2] (fun _ => [])) (cf_ok _ _ _) (fn := Try.f107) Try.func107 (by kernel_rfl) rfl (by kernel_rfl) (by simp [cf]) (plain1 (.str _)) (by decide) (cellsOk (by kernel_rfl)) ?_
  simp only [go_sem, seval]
  refine finOneD (r' := .agg [.bool false, .str s, .ext nilP]) ?_ (dull_none _ _) (fun _ e => by cases e) (fun _ e => by cases e)
  show resOf _ _ [.cell 2 134] = _
  simp only [go_sem, seval]
theorem c_ref7_number (n : Int) (h0 : 0 ≤ n) (h1 : n < 9223372036854775808) : Contract Try.prog 110 [.int .i64 n] (.agg [.bool false, .str (bytesOf n.toNat), .sl false 3 []]) := by
  have h2 := c_ref1_Of n.toNat (by omega)
  have h3 := c_ref1_Text n.toNat (lt_U (by omega))
  have e : ((n.toNat : Nat) : Int) = n := Int.toNat_of_nonneg h0
  rw [e] at h2
  unfold u at h2 h3
  refine contract_of (C := cf 7 [0, 2] (fun _ => [])) (cf_ok _ _ _) (fn := Try.f110) Try.func110 (by kernel_rfl) rfl (by kernel_rfl) (by simp [cf]) (plain1 (.int _ _)) (by decide) (cellsOk (by kernel_rfl)) ?_
  simp only [go_sem, seval]
  refine ex_call (by exact h2) ?_
  simp only [go_sem, seval]
  refine ex_call (by exact h3) ?_
  simp only [go_sem, seval]
  refine ex_call (by exact c_ref7_text _) ?_
  simp only [go_sem, seval]
  refine finOne ?_ (fun _ e => by cases e)
  show resOf _ _ [.cell 2 134] = _
  simp only [go_sem, seval]
theorem repI_own {sz i : Nat} {es : List AV} (h : 0 < i) : repI sz i es = .own false sz es := by
  cases i with
  | zero => exact absurd h (by omega)
  | succ i => rfl
abbrev leafA (s : List UInt8) : AV := .agg [.bool false, .str s, .ext nilP]
theorem leaves_dull {α : Type} (s : α → List UInt8) (l : List α) (fr : Bool) : Dull (.agg [.bool true, .str [], .sl fr 3 (l.map fun a => leafA (s a))]) (listI (l.map fun a => leaf (s a))).av := by
  rw [ItemD.av_eq]
  refine dulls_agg (.cons (.refl _) (.cons (.refl _) (.cons ?_ .nil)))
  refine .sl _ _ _ _ (by simp [ItemD.items]) fun j x y h e => ?_
  simp only [ItemD.items, List.getElem?_map, Option.map_eq_some_iff] at h e
  obtain ⟨a, h1, rfl⟩ := h
  obtain ⟨b, ⟨c, h2, rfl⟩, rfl⟩ := e
  rw [h1] at h2
  cases h2
  rw [ItemD.av_eq]
  exact dull_none _ _
abbrev numA (n : Nat) : AV := .agg [.bool false, .str (bytesOf n), .sl false 3 []]
theorem tx_dull (t : TxD) (f1 f2 f3 : Bool) : Dull (.agg [.bool true, .str [], .sl f1 3 [numA t.frm.toNat, numA t.nonce.toNat, numA t.tip, numA t.cap, numA t.bcap, numA t.value, numA t.gas.toNat,
    .agg [.bool true, .str [], .sl f2 3 (t.hashes.map fun h => leafA (textOf h))], .agg [.bool true, .str [], .sl f3 3 (t.blobs.map fun b => leafA b)]]])
    (.agg [.bool (txItem t).list, .str (txItem t).text, .sl false 3 ((txItem t).items.map ItemD.av)]) := by
  have nn : ∀ n, (numI n).av = numA n := fun n => by rw [ItemD.av_eq]; rfl
  have e : (txItem t).items.map ItemD.av = [numA t.frm.toNat, numA t.nonce.toNat, numA t.tip, numA t.cap, numA t.bcap, numA t.value, numA t.gas.toNat, (hashI t).av, (blobI t).av] := by
    show List.map ItemD.av [_, _, _, _, _, _, _, _, _] = _
    simp only [List.map_cons, List.map_nil, nn]
  rw [e]
  refine dulls_agg (.cons (.refl _) (.cons (.refl _) (.cons ?_ .nil)))
  refine .sl _ _ _ _ rfl fun j x y h k => ?_
  match j, h, k with
  | 0, h, k => cases h; cases k; exact .refl _
  | 1, h, k => cases h; cases k; exact .refl _
  | 2, h, k => cases h; cases k; exact .refl _
  | 3, h, k => cases h; cases k; exact .refl _
  | 4, h, k => cases h; cases k; exact .refl _
  | 5, h, k => cases h; cases k; exact .refl _
  | 6, h, k => cases h; cases k; exact .refl _
  | 7, h, k => cases h; cases k; exact leaves_dull textOf t.hashes f2
  | 8, h, k => cases h; cases k; exact leaves_dull (fun b => b) t.blobs f3
  | j + 9, h, k => cases h
def bytesTx (t : TxD) : List UInt8 := if validTx t = true then txRaw t else []
theorem c_BytesI7 (a : ItemD) (ha : a.ok) : Contract Try.prog 105 [.agg [.bool a.list, .str a.text, .sl false 3 (a.items.map ItemD.av)]] (.tup [.str (bytesI a), .int .i64 (if okI 0 a = true then 0 else 1)]) := by
  have h := c_item_Bytes a ha
  rw [a.av_eq] at h
  exact h
theorem c_tx_Bytes (t : TxD) (h : t.ok) : Contract Try.prog 70 [t.av] (.tup [.str (bytesTx t), .int .i64 (if validTx t = true then 0 else 1)]) := by
  have hc := c_tx_Check t h
  unfold TxD.av TxD.cells ints strs at hc
  unfold bytesTx
  cases hv : validTx t with
  | false =>
    rw [hv, if_neg (by simp)] at hc
    refine contract_of (C := cf 74 [1, 2, 3, 4, 5, 6, 7, 8, 9, 13, 17, 18, 19, 20, 21] (fun _ => [])) (cf_ok _ _ _) (fn := Try.f70) Try.func70 (by kernel_rfl) rfl (by kernel_rfl) (by simp [cf]) (plain1 t.plain) (by decide) (noCell (by kernel_rfl)) ?_
    simp only [go_sem, seval, TxD.av, TxD.cells, ints, strs]
    refine ex_call (by exact hc) ?_
    simp only [go_sem, seval]
    refine finTup ?_
    show resOf _ _ [.tmp 2, .tmp 3] = _
    simp only [go_sem, seval]
  | true =>
    have V := valid_of hv
    have h1 := V.one
    have h4 := V.four
    have hhl : t.hashes.length = t.blobs.length := by rw [V.hashes, List.length_map]
    rw [hv, if_pos rfl] at hc
    have n0 := c_tx_number t.frm V.frm.1 (by have := V.frm; omega)
    have n1 := c_tx_number t.nonce V.nonce.1 (by have := V.nonce; omega)
    have n2 := c_tx_amount t.tip h.tip
    have n3 := c_tx_amount t.cap h.cap
    have n4 := c_tx_amount t.bcap h.bcap
    have n5 := c_tx_amount t.value h.value
    have n6 := c_tx_number t.gas V.gas.1 (by have := V.gas; omega)
    unfold u at n2 n3 n4 n5
    have nb := c_BytesI7 (txItem t) (tx_itok h V)
    have hmay := tx_may h V
    rw [hmay, if_pos rfl] at nb
    have hb : bytesI (txItem t) = txRaw t := by unfold bytesI; rw [if_pos hmay]; rfl
    rw [hb] at nb
    rw [if_pos rfl, if_pos rfl]
    refine contract_of (C := cf 74 [1, 2, 3, 4, 5, 6, 7, 8, 9, 13, 17, 18, 19, 20, 21] (fun _ => [])) (cf_ok _ _ _) (fn := Try.f70) Try.func70 (by kernel_rfl) rfl (by kernel_rfl) (by simp [cf]) (plain1 t.plain) (by decide) (noCell (by kernel_rfl)) ?_
    simp only [go_sem, seval, TxD.av, TxD.cells, ints, strs]
    refine ex_call (by exact hc) ?_
    simp only [go_sem, seval, List.length_map]
    refine ex_iter [1, 5, 6, 17, 18, 19, 20] (fun i : Nat => ⟨[(1, .var 1 0), (5, .var 5 0), (6, .var 6 0), (17, .var 1 20), (18, .sl false 1 (t.blobs.map AV.str)), (19, .int .i64 t.blobs.length), (20, .int .i64 i)],
      [(1, [.int .i64 t.frm, .int .i64 t.nonce, .int .u64 (lim t.tip 0), .int .u64 (lim t.tip 1), .int .u64 (lim t.tip 2), .int .u64 (lim t.tip 3),
  .int .u64 (lim t.cap 0), .int .u64 (lim t.cap 1), .int .u64 (lim t.cap 2), .int .u64 (lim t.cap 3), .int .u64 (lim t.bcap 0), .int .u64 (lim t.bcap 1), .int .u64 (lim t.bcap 2), .int .u64 (lim t.bcap 3),
  .int .u64 (lim t.value 0), .int .u64 (lim t.value 1), .int .u64 (lim t.value 2), .int .u64 (lim t.value 3), .int .i64 t.gas, .sl false 1 (t.hashes.map (AV.int .u64)), .sl false 1 (t.blobs.map AV.str)]),
       (5, [.bool true, .str [], repI 3 i ((t.hashes.take i).map fun h => leafA (textOf h))]), (6, [.bool true, .str [], repI 3 i ((t.blobs.take i).map fun b => leafA b)])], []⟩)
      (fun i => i ≤ t.blobs.length) (fun i => t.blobs.length - i) 0 ?_ ?_ ?_
    · simp only [ASt.keep, consIf, keepL, keepV, AV.isBot, List.contains_cons, List.contains_nil, Nat.reduceBEq, Bool.or_false, Bool.false_or, Bool.or_true, Bool.true_or, beq_self_eq_true, Bool.false_eq_true, ↓reduceIte, if_false, if_true]
      rfl
    · exact Nat.zero_le _
    · intro r i hi next
      simp only [go_sem, seval]
      refine ex_br (fun hlt => ?_) (fun hlt => ?_)
      · have hlt : i < t.blobs.length := by simpa using hlt
        obtain ⟨b, eb⟩ : ∃ b, t.blobs[i]? = some b := ⟨_, List.getElem?_eq_getElem hlt⟩
        obtain ⟨hh, eh⟩ : ∃ hh, t.hashes[i]? = some hh := ⟨_, List.getElem?_eq_getElem (by omega)⟩
        have s1 : (t.hashes.take i).map (fun h => leafA (textOf h)) ++ [.agg [.bool false, .str (textOf hh), .ext nilP]] = (t.hashes.take (i + 1)).map fun h => leafA (textOf h) := take_snoc (fun h => leafA (textOf h)) eh
        have s2 : (t.blobs.take i).map (fun b => leafA b) ++ [.agg [.bool false, .str b, .ext nilP]] = (t.blobs.take (i + 1)).map fun b => leafA b := take_snoc (fun b => leafA b) eb
        cases i with
        | zero =>
          simp only [go_sem, seval, repI, List.length_map, List.getElem?_map, eb, eh, Int.toNat_natCast, Int.cast_ofNat_Int]
          repeat with_reducible refine And.intro (by first | omega | (simp only [List.length_cons, List.length_append, List.length_nil, List.length_map, List.length_take, List.length_drop, List.length_set]; omega)) ?_
          refine ex_draw [12] [] (.quiet 0 (.quiet 1 (.quiet 2 (.quiet 3 (.quiet 4 (.quiet 5 (.quiet 6 (.one 7 (.one 8 (.one 9 (.one 10 (.quiet 11 (.unlock (.one 12 (.fin))))))))))))))) (by kernel_rfl) ?_
          simp only [go_sem, seval, repI, List.length_map, List.getElem?_map, eb, eh, Int.toNat_natCast, Int.cast_ofNat_Int]
          repeat with_reducible refine And.intro (by first | omega | (simp only [List.length_cons, List.length_append, List.length_nil, List.length_map, List.length_take, List.length_drop, List.length_set]; omega)) ?_
          try simp only [go_sem, seval, eh, Int.toNat_natCast, List.getElem?_map]
          refine ex_call (by exact c_mark_Text hh) ?_
          simp only [go_sem, seval, repI]
          repeat with_reducible refine And.intro (by first | omega | (simp only [List.length_cons, List.length_append, List.length_nil, List.length_map, List.length_take, List.length_drop, List.length_set]; omega)) ?_
          refine next (0 + 1) _ (by omega) (by omega) ?_
          rw [← wi64_nat 0 (by omega), ← s1, ← s2]
          simp only [ASt.keep, consIf, keepL, keepV, AV.isBot, List.contains_cons, List.contains_nil, Nat.reduceBEq, Bool.or_false, Bool.false_or, Bool.or_true, Bool.true_or, beq_self_eq_true, Bool.false_eq_true, ↓reduceIte, if_false, if_true]
          rfl
        | succ i =>
          simp only [go_sem, seval, repI, List.length_map, List.getElem?_map, eb, eh, Int.toNat_natCast]
          repeat with_reducible refine And.intro (by first | omega | (simp only [List.length_cons, List.length_append, List.length_nil, List.length_map, List.length_take, List.length_drop, List.length_set]; omega)) ?_
          try simp only [go_sem, seval, repI, List.length_map, List.getElem?_map, eb, eh, Int.toNat_natCast]
          refine ex_draw [12] [] (.quiet 0 (.quiet 1 (.quiet 2 (.quiet 3 (.quiet 4 (.quiet 5 (.quiet 6 (.one 7 (.one 8 (.one 9 (.one 10 (.quiet 11 (.unlock (.one 12 (.fin))))))))))))))) (by kernel_rfl) ?_
          simp only [go_sem, seval, repI, List.length_map, List.getElem?_map, eb, eh, Int.toNat_natCast]
          repeat with_reducible refine And.intro (by first | omega | (simp only [List.length_cons, List.length_append, List.length_nil, List.length_map, List.length_take, List.length_drop, List.length_set]; omega)) ?_
          try simp only [go_sem, seval, eh, Int.toNat_natCast, List.getElem?_map]
          refine ex_call (by exact c_mark_Text hh) ?_
          simp only [go_sem, seval, repI, List.length_map]
          repeat with_reducible refine And.intro (by first | omega | (simp only [List.length_cons, List.length_append, List.length_nil, List.length_map, List.length_take, List.length_drop, List.length_set]; omega)) ?_
          try simp only [go_sem, seval, repI, List.length_map]
          repeat with_reducible refine And.intro (by first | omega | (simp only [List.length_cons, List.length_append, List.length_nil, List.length_map, List.length_take, List.length_drop, List.length_set]; omega)) ?_
          refine next (i + 1 + 1) _ (by omega) (by omega) ?_
          rw [← wi64_nat (i + 1) (by omega), ← s1, ← s2]
          simp only [ASt.keep, consIf, keepL, keepV, AV.isBot, List.contains_cons, List.contains_nil, Nat.reduceBEq, Bool.or_false, Bool.false_or, Bool.or_true, Bool.true_or, beq_self_eq_true, Bool.false_eq_true, ↓reduceIte, if_false, if_true]
          rfl
      · have hge : i = t.blobs.length := by simp at hlt; omega
        subst hge
        have p1 := repI_own (sz := 3) (i := t.blobs.length) (es := t.hashes.map fun h => leafA (textOf h)) (by omega)
        have p2 := repI_own (sz := 3) (i := t.blobs.length) (es := t.blobs.map fun b => leafA b) (by omega)
        rw [show t.hashes.take t.blobs.length = t.hashes by rw [← hhl, List.take_length], List.take_length, p1, p2]
        simp only [go_sem, seval]
        refine ex_draw [] [] (.quiet 0 (.quiet 1 (.quiet 3 (.quiet 4 (.quiet 6 (.quiet 7 (.quiet 9 (.quiet 10 (.quiet 12 (.quiet 13 (.quiet 15 (.quiet 16 (.quiet 18 (.quiet 19 (.quiet 21 (.quiet 22 (.one 2 (.one 5 (.one 8 (.one 11 (.one 14 (.one 17 (.one 20 (.one 23 (.quiet 24 (.fin)))))))))))))))))))))))))) (by kernel_rfl) ?_
        simp only [go_sem, seval]
        refine ex_call (by exact n0) ?_
        simp only [go_sem, seval]
        refine ex_call (by exact n1) ?_
        simp only [go_sem, seval]
        refine ex_call (by exact n2) ?_
        simp only [go_sem, seval]
        refine ex_call (by exact n3) ?_
        simp only [go_sem, seval]
        refine ex_call (by exact n4) ?_
        simp only [go_sem, seval]
        refine ex_call (by exact n5) ?_
        simp only [go_sem, seval]
        refine ex_call (by exact n6) ?_
        simp only [go_sem, seval]
        refine ex_call_dull (.cons (tx_dull t _ _ _) .nil) (by exact nb) ?_
        simp only [go_sem, seval]
        refine finTup ?_
        show resOf _ _ [.tmp 2, .tmp 3] = _
        simp only [go_sem, seval]
end Go.Proofs.Ytpepfhbfooeoeaa.VA
end
