/- Transactions: copies, weights, plain ones. Transactions: comparisons. Questions of the laws on transactions. TxWrongs: the law's function answers true. -/
import Derived.Test.YtfafaiicbhcfdaaT1
import Derived.Test.YtfafaiicbhcfdaaT2
import Derived.Test.YtfafaiicbhcfdaaT3
import Derived.Test.YtfafaiicbhcfdaaT4
import Derived.Test.YtfafaiicbhcfdaaT5
import Derived.Test.YtfafaiicbhcfdaaT6
section
/- Transactions: copies, weights, plain ones. -/
namespace Go.Proofs.Ytfafaiicbhcfdaa.VA
set_option maxRecDepth 10000
set_option linter.unusedSimpArgs false
set_option linter.unusedVariables false
set_option maxHeartbeats 8000000

def TxD.dull (t : TxD) : AV := .agg [.int .i64 t.frm, .int .i64 t.nonce, .int .u64 (lim t.tip 0), .int .u64 (lim t.tip 1), .int .u64 (lim t.tip 2), .int .u64 (lim t.tip 3), .int .u64 (lim t.cap 0), .int .u64 (lim t.cap 1), .int .u64 (lim t.cap 2), .int .u64 (lim t.cap 3), .int .u64 (lim t.bcap 0), .int .u64 (lim t.bcap 1), .int .u64 (lim t.bcap 2), .int .u64 (lim t.bcap 3), .int .u64 (lim t.value 0), .int .u64 (lim t.value 1), .int .u64 (lim t.value 2), .int .u64 (lim t.value 3), .int .i64 t.gas, .sl true 1 (t.hashes.map (AV.int .u64)), .sl true 1 (t.blobs.map AV.str)]
theorem TxD.dull_av (t : TxD) : Dull t.dull t.av := by
  refine dulls_agg ?_
  repeat' (first | exact Dulls.nil | exact Dull.refl _ | exact dsl _ _ _ | refine Dulls.cons ?_ ?_)
theorem c_CopyTx (t : TxD) (h : t.ok) : Contract Try.prog 38 [t.av] t.av := by
  refine contract_of (C := cf 14 [1, 2, 3] (fun _ => [])) (cf_ok _ _ _) (fn := Try.f38) Try.func38 (by kernel_rfl) rfl (by kernel_rfl) (by simp [cf]) (plain1 t.plain) (by decide) (cellsOk (by kernel_rfl)) ?_
  simp only [go_sem, seval, TxD.av, TxD.cells, ints, strs]
  refine ex_call (by exact c_CopyMarks t.hashes h.hashes) ?_
  simp only [go_sem, seval]
  refine ex_call (by exact c_CopyStrings t.blobs h.blobs) ?_
  simp only [go_sem, seval]
  refine finOneD (r' := .agg [.int .i64 t.frm, .int .i64 t.nonce, .int .u64 (lim t.tip 0), .int .u64 (lim t.tip 1), .int .u64 (lim t.tip 2), .int .u64 (lim t.tip 3), .int .u64 (lim t.cap 0), .int .u64 (lim t.cap 1), .int .u64 (lim t.cap 2), .int .u64 (lim t.cap 3), .int .u64 (lim t.bcap 0), .int .u64 (lim t.bcap 1), .int .u64 (lim t.bcap 2), .int .u64 (lim t.bcap 3), .int .u64 (lim t.value 0), .int .u64 (lim t.value 1), .int .u64 (lim t.value 2), .int .u64 (lim t.value 3), .int .i64 t.gas, .sl true 1 (t.hashes.map (AV.int .u64)), .sl true 1 (t.blobs.map AV.str)]) ?_ ?_ (fun _ e => by cases e) (fun _ e => by cases e)
  · show resOf _ _ [.cell 2 30] = _
    simp only [go_sem, seval]
  · refine dulls_agg ?_
    repeat' (first | exact Dulls.nil | exact Dull.refl _ | exact dsl _ _ _ | refine Dulls.cons ?_ ?_)

/-- How much the texts of a transaction weigh. -/
def weigh : Int → List (List UInt8) → Int
  | n, [] => n
  | n, b :: bs => if n < 1048576 then weigh (n + b.length) bs else n
def weightOf (t : TxD) : Int := weigh (1 + t.hashes.length + t.blobs.length) t.blobs
theorem weigh_drop {n : Int} {bs : List (List UInt8)} {i : Nat} {b : List UInt8} (e : bs[i]? = some b) (h : n < 1048576) : weigh n (bs.drop i) = weigh (n + b.length) (bs.drop (i + 1)) := by
  obtain ⟨hi, rfl⟩ := List.getElem?_eq_some_iff.1 e
  rw [← List.getElem_cons_drop hi]
  simp only [weigh, if_pos h]
theorem weigh_end {n : Int} {bs : List (List UInt8)} (h : ¬ n < 1048576) : weigh n bs = n := by
  cases bs with
  | nil => rfl
  | cons b bs => simp only [weigh, if_neg h]
theorem c_TxWeight (t : TxD) (h : t.ok) : Contract Try.prog 17 [t.av] (.int .i64 (weightOf t)) := by
  refine contract_of (C := cf 33 [1, 2, 3, 4, 21] (fun _ => [])) (cf_ok _ _ _) (fn := Try.f17) Try.func17 (by kernel_rfl) rfl (by kernel_rfl) (by simp [cf]) (plain1 t.plain) (by decide) (noCell (by kernel_rfl)) ?_
  have h1 := h.hashes
  have h2 := h.blobs
  unfold reachBytes at h1 h2
  have w1 : IntKind.i64.wrap (1 + (t.hashes.length : Int)) = 1 + (t.hashes.length : Int) := wi64 (by omega) (by omega)
  have w2 : IntKind.i64.wrap (1 + (t.hashes.length : Int) + (t.blobs.length : Int)) = 1 + (t.hashes.length : Int) + t.blobs.length := wi64 (by omega) (by omega)
  simp only [go_sem, seval, TxD.av, TxD.cells, ints, strs, List.length_map, w1, w2]
  refine ex_iter [1, 3, 4] (fun q : Nat × Int => ⟨[(1, .var 1 0), (3, .int .i64 q.2), (4, .int .i64 q.1)], [(1, [.int .i64 t.frm, .int .i64 t.nonce, .int .u64 (lim t.tip 0), .int .u64 (lim t.tip 1), .int .u64 (lim t.tip 2), .int .u64 (lim t.tip 3), .int .u64 (lim t.cap 0), .int .u64 (lim t.cap 1), .int .u64 (lim t.cap 2), .int .u64 (lim t.cap 3), .int .u64 (lim t.bcap 0), .int .u64 (lim t.bcap 1), .int .u64 (lim t.bcap 2), .int .u64 (lim t.bcap 3), .int .u64 (lim t.value 0), .int .u64 (lim t.value 1), .int .u64 (lim t.value 2), .int .u64 (lim t.value 3), .int .i64 t.gas, .sl false 1 (t.hashes.map (AV.int .u64)), .sl false 1 (t.blobs.map AV.str)])]⟩)
    (fun q => q.1 ≤ t.blobs.length ∧ 0 ≤ q.2 ∧ q.2 ≤ 281474976710656 ∧ weigh q.2 (t.blobs.drop q.1) = weightOf t) (fun q => t.blobs.length - q.1) (0, 1 + (t.hashes.length : Int) + t.blobs.length) ?_ ?_ ?_
  · simp only [ASt.keep, consIf, keepL, keepV, AV.isBot, List.contains_cons, List.contains_nil, Nat.reduceBEq, Bool.or_false, Bool.false_or, Bool.or_true, Bool.true_or, beq_self_eq_true, Bool.false_eq_true, ↓reduceIte, if_false, if_true]
    rfl
  · exact ⟨Nat.zero_le _, by simp only; omega, by simp only; omega, rfl⟩
  · rintro r ⟨i, n⟩ hinv next
    obtain ⟨hi, hn1, hn2, hw⟩ : i ≤ t.blobs.length ∧ 0 ≤ n ∧ n ≤ 281474976710656 ∧ weigh n (t.blobs.drop i) = weightOf t := hinv
    simp only [go_sem, seval, List.length_map]
    refine ex_joinB 21 (decide (i < t.blobs.length) && decide (n < 1048576)) ?_ ?_
    · repeat' (first | (refine ex_split (fun h => ?_) (fun h => ?_)) | (with_reducible refine And.intro (by omega) ?_) |
        (simp only [go_sem, seval, List.length_map]))
      all_goals (try simp only [ASt.mk.injEq, List.cons.injEq, Prod.mk.injEq, AV.bool.injEq, true_and, and_true, eq_self])
      all_goals first | (simp_all; done) | (simp_all; omega) | (rw [Bool.eq_iff_iff]; simp only [List.length_map, Bool.or_eq_true, Bool.and_eq_true, Bool.not_eq_true', Bool.not_eq_false', decide_eq_true_eq, decide_eq_false_iff_not, bne_iff_ne, beq_iff_eq, ne_eq, true_iff, iff_true, false_iff, iff_false, Bool.false_eq_true, not_false_eq_true, not_true_eq_false] at *; omega)
    simp only [go_sem, seval]
    refine ex_br (fun hc => ?_) (fun hc => ?_)
    · have hlt : i < t.blobs.length ∧ n < 1048576 := by simpa using hc
      obtain ⟨b, eb⟩ : ∃ b, t.blobs[i]? = some b := ⟨_, List.getElem?_eq_getElem hlt.1⟩
      have hb := h.blob b (List.mem_of_getElem? eb)
      unfold reachBytes at hb
      have w3 : IntKind.i64.wrap (n + (b.length : Int)) = n + b.length := wi64 (by omega) (by omega)
      simp only [go_sem, seval, List.length_map, List.getElem?_map, eb, Int.toNat_natCast, w3]
      repeat with_reducible refine And.intro (by first | omega | (simp only [List.length_cons, List.length_append, List.length_nil, List.length_map, List.length_take, List.length_drop, List.length_set]; omega)) ?_
      refine next (i + 1, n + b.length) _ ⟨by simp only; omega, by simp only; omega, by simp only; omega, by simp only; rw [← weigh_drop eb hlt.2]; exact hw⟩ (by simp only; omega) ?_
      simp only
      rw [← wi64_nat i (by omega)]
      simp only [ASt.keep, consIf, keepL, keepV, AV.isBot, List.contains_cons, List.contains_nil, Nat.reduceBEq, Bool.or_false, Bool.false_or, Bool.or_true, Bool.true_or, beq_self_eq_true, Bool.false_eq_true, ↓reduceIte, if_false, if_true]
    · have e : weightOf t = n := by
        rw [← hw]
        by_cases h1 : n < 1048576
        · have : i = t.blobs.length := by simp [h1] at hc; omega
          rw [this, List.drop_length]; rfl
        · exact weigh_end h1
      simp only [go_sem, seval, e]
      refine finOne ?_ (fun _ e => by cases e)
      show resOf _ _ [.tmp 2] = _
      simp only [go_sem, seval]

theorem weigh_bounds (bs : List (List UInt8)) (hb : ∀ b ∈ bs, b.length ≤ reachBytes) : ∀ n : Int, 0 ≤ n → n ≤ 281474976710656 → 0 ≤ weigh n bs ∧ weigh n bs ≤ 281474976710656 := by
  induction bs with
  | nil => intro n h1 h2; exact ⟨h1, h2⟩
  | cons b bs ih =>
    intro n h1 h2
    simp only [weigh]
    have := hb b (by simp)
    unfold reachBytes at this
    split
    · exact ih (fun x hx => hb x (List.mem_cons_of_mem _ hx)) _ (by omega) (by omega)
    · exact ⟨h1, h2⟩
theorem weightOf_bounds (t : TxD) (h : t.ok) : 0 ≤ weightOf t ∧ weightOf t ≤ 281474976710656 := by
  have h1 := h.hashes
  have h2 := h.blobs
  unfold reachBytes at h1 h2
  exact weigh_bounds _ h.blob _ (by omega) (by omega)
theorem lims_small (g : Nat) (hg : g < 18446744073709551616) : lim g 0 = g ∧ lim g 1 = 0 ∧ lim g 2 = 0 ∧ lim g 3 = 0 := by
  have h := u_small g hg
  unfold u at h
  injection h with h
  injection h with h0 h
  injection h with h1 h
  injection h with h2 h
  injection h with h3 h
  injection h0 with _ h0
  injection h1 with _ h1
  injection h2 with _ h2
  injection h3 with _ h3
  exact ⟨h0, h1, h2, h3⟩
/-- A plain transaction. -/
def plainTx (f n : Int) (p : Nat) : TxD := ⟨f, n, p, 2 * p, p, 0, 1, [hashOf [98]], [[98]]⟩
theorem c_T (f n : Int) (p : Nat) (hp : 2 * p < 18446744073709551616) : Contract Try.prog 36 [.int .i64 f, .int .i64 n, .int .u64 p] (plainTx f n p).av := by
  refine contract_of (C := cf 20 [0, 1, 2, 6] (fun _ => [])) (cf_ok _ _ _) (fn := Try.f36) Try.func36 (by kernel_rfl) rfl (by kernel_rfl) (by simp [cf]) (plain3 (.int _ _) (.int _ _) (.int _ _)) (by decide) (cellsOk (by kernel_rfl)) ?_
  have w : IntKind.u64.wrap (2 * (p : Int)) = ((2 * p : Nat) : Int) := by rw [wu64 (by omega) (by omega)]; omega
  simp only [go_sem, seval, w]
  refine ex_call (by exact c_ref4_Hash [98] (by decide)) ?_
  simp only [go_sem, seval]
  have l1 := lims_small p (by omega)
  have l2 := lims_small (2 * p) hp
  have l0 := lims_small 0 (by decide)
  have l3 : lim 0 0 = 0 := l0.1
  refine finOneD (r' := .agg [.int .i64 f, .int .i64 n, .int .u64 p, .int .u64 0, .int .u64 0, .int .u64 0, .int .u64 (2 * p : Nat), .int .u64 0, .int .u64 0, .int .u64 0, .int .u64 p, .int .u64 0, .int .u64 0, .int .u64 0, .int .u64 0, .int .u64 0, .int .u64 0, .int .u64 0, .int .i64 1, .sl true 1 [.int .u64 (hashOf [98])], .sl true 1 [.str [98]]]) ?_ ?_ (fun _ e => by cases e) (fun _ e => by cases e)
  · show resOf _ _ [.cell 6 30] = _
    simp only [go_sem, seval]
  · unfold TxD.av TxD.cells plainTx
    simp only [l1, l2, l0, l3, ints, strs, List.map_cons, List.map_nil]
    refine dulls_agg ?_
    repeat' (first | exact Dulls.nil | exact Dull.refl _ | exact dsl _ _ _ | refine Dulls.cons ?_ ?_)
theorem plain_ok (f n : Int) (p : Nat) (hf : -9223372036854775808 ≤ f ∧ f ≤ 9223372036854775807) (hn : -9223372036854775808 ≤ n ∧ n ≤ 9223372036854775807) (hp : 2 * p < 18446744073709551616) : (plainTx f n p).ok :=
  ⟨hf, hn, by simp only [plainTx]; omega, by simp only [plainTx, U]; omega, by simp only [plainTx, U]; omega, by simp only [plainTx, U]; omega, by simp only [plainTx, U]; omega, by simp only [plainTx, reachBytes]; decide, by simp only [plainTx, reachBytes]; decide, fun b hb => by
    simp only [plainTx, List.mem_singleton] at hb
    subst hb; unfold reachBytes; decide⟩
end Go.Proofs.Ytfafaiicbhcfdaa.VA
end
section
/- Transactions: comparisons. -/
namespace Go.Proofs.Ytfafaiicbhcfdaa.VA
set_option maxRecDepth 10000
set_option linter.unusedSimpArgs false
set_option linter.unusedVariables false
set_option maxHeartbeats 8000000

theorem take_eq_succ {α : Type} {a b : List α} {i : Nat} {x : α} (h : a.take i = b.take i) (ha : a[i]? = some x) (hb : b[i]? = some x) : a.take (i + 1) = b.take (i + 1) := by
  rw [List.take_add_one, List.take_add_one, h, ha, hb]
theorem eq_of_takes {α : Type} {a b : List α} (hl : a.length = b.length) {i : Nat} (hi : i = a.length) (h : a.take i = b.take i) : a = b := by
  subst hi
  rw [List.take_length, hl, List.take_length] at h
  exact h
theorem ne_of_get {α : Type} {a b : List α} {i : Nat} {x y : α} (ha : a[i]? = some x) (hb : b[i]? = some y) (h : x ≠ y) : a ≠ b := by
  rintro rfl
  rw [ha] at hb
  cases hb
  exact h rfl

theorem c_EqMarks (a b : List Int) (ha : a.length * 8 ≤ reachBytes) (hb : b.length * 8 ≤ reachBytes) : Contract Try.prog 64 [ints .u64 a, ints .u64 b] (.bool (decide (a = b))) := by
  unfold reachBytes at ha hb
  refine contract_of (C := cf 26 [0, 1, 4, 5, 10, 14, 25] (fun _ => [])) (cf_ok _ _ _) (fn := Try.f64) Try.func64 (by kernel_rfl) rfl (by kernel_rfl) (by simp [cf]) (plain2 (ints_plain _ a) (ints_plain _ b)) (by decide) (noCell (by kernel_rfl)) ?_
  simp only [go_sem, seval, ints, List.length_map]
  refine ex_br (fun h => ?_) (fun h => ?_)
  · have hne : a ≠ b := by
      rintro rfl
      simp at h
    rw [decide_eq_false hne]
    simp only [go_sem, seval]
    refine finOne ?_ (fun _ e => by cases e)
    show resOf _ _ [.tmp 4] = _
    simp only [go_sem, seval]
  · have hl : a.length = b.length := by simp at h; omega
    simp only [go_sem, seval]
    refine ex_iter [0, 1, 5] (fun i : Nat => ⟨[(0, .sl false 1 (a.map (AV.int .u64))), (1, .sl false 1 (b.map (AV.int .u64))), (5, .int .i64 i)], []⟩) (fun i => i ≤ a.length ∧ a.take i = b.take i) (fun i => a.length - i) 0 ?_ ?_ ?_
    · simp only [ASt.keep, consIf, keepL, keepV, AV.isBot, List.contains_cons, List.contains_nil, Nat.reduceBEq, Bool.or_false, Bool.false_or, Bool.or_true, Bool.true_or, beq_self_eq_true, Bool.false_eq_true, ↓reduceIte, if_false, if_true]
      rfl
    · exact ⟨Nat.zero_le _, by simp⟩
    · rintro n i ⟨hi, ht⟩ next
      simp only [go_sem, seval, List.length_map]
      refine ex_br (fun h => ?_) (fun h => ?_)
      · have hlt : i < a.length := by simpa using h
        obtain ⟨x, ex⟩ : ∃ x, a[i]? = some x := ⟨_, List.getElem?_eq_getElem hlt⟩
        obtain ⟨y, ey⟩ : ∃ y, b[i]? = some y := ⟨_, List.getElem?_eq_getElem (by omega)⟩
        simp only [go_sem, seval]
        refine ex_draw [] [] (.quiet 0 (.quiet 1 (.quiet 2 (.quiet 3 (.quiet 4 (.quiet 5 (.quiet 6 (.quiet 7 (.quiet 8 (.fin)))))))))) (by kernel_rfl) ?_
        simp only [go_sem, seval, List.length_map, List.getElem?_map, ex, ey, Int.toNat_natCast]
        repeat with_reducible refine And.intro (by first | omega | (simp only [List.length_cons, List.length_append, List.length_nil, List.length_map, List.length_take, List.length_drop, List.length_set]; omega)) ?_
        refine ex_br (fun hne => ?_) (fun hne => ?_)
        · rw [decide_eq_false (ne_of_get ex ey (by simpa using hne))]
          simp only [go_sem, seval]
          refine finOne ?_ (fun _ e => by cases e)
          show resOf _ _ [.tmp 4] = _
          simp only [go_sem, seval]
        · have hxy : x = y := by simpa using hne
          subst hxy
          simp only [go_sem, seval]
          refine next (i + 1) _ ⟨by omega, take_eq_succ ht ex ey⟩ (by omega) ?_
          rw [← wi64_nat i (by omega)]
          simp only [ASt.keep, consIf, keepL, keepV, AV.isBot, List.contains_cons, List.contains_nil, Nat.reduceBEq, Bool.or_false, Bool.false_or, Bool.or_true, Bool.true_or, beq_self_eq_true, Bool.false_eq_true, ↓reduceIte, if_false, if_true]
      · have hge : i = a.length := by simp at h; omega
        rw [decide_eq_true (eq_of_takes hl hge ht)]
        simp only [go_sem, seval]
        refine finOne ?_ (fun _ e => by cases e)
        show resOf _ _ [.tmp 4] = _
        simp only [go_sem, seval]
theorem c_EqStrings (a b : List (List UInt8)) (ha : a.length * 16 ≤ reachBytes) (hb : b.length * 16 ≤ reachBytes) : Contract Try.prog 65 [strs a, strs b] (.bool (decide (a = b))) := by
  unfold reachBytes at ha hb
  refine contract_of (C := cf 26 [0, 1, 4, 5, 10, 14, 25] (fun _ => [])) (cf_ok _ _ _) (fn := Try.f65) Try.func65 (by kernel_rfl) rfl (by kernel_rfl) (by simp [cf]) (plain2 (strs_plain a) (strs_plain b)) (by decide) (noCell (by kernel_rfl)) ?_
  simp only [go_sem, seval, strs, List.length_map]
  refine ex_br (fun h => ?_) (fun h => ?_)
  · have hne : a ≠ b := by
      rintro rfl
      simp at h
    rw [decide_eq_false hne]
    simp only [go_sem, seval]
    refine finOne ?_ (fun _ e => by cases e)
    show resOf _ _ [.tmp 4] = _
    simp only [go_sem, seval]
  · have hl : a.length = b.length := by simp at h; omega
    simp only [go_sem, seval]
    refine ex_iter [0, 1, 5] (fun i : Nat => ⟨[(0, .sl false 1 (a.map AV.str)), (1, .sl false 1 (b.map AV.str)), (5, .int .i64 i)], []⟩) (fun i => i ≤ a.length ∧ a.take i = b.take i) (fun i => a.length - i) 0 ?_ ?_ ?_
    · simp only [ASt.keep, consIf, keepL, keepV, AV.isBot, List.contains_cons, List.contains_nil, Nat.reduceBEq, Bool.or_false, Bool.false_or, Bool.or_true, Bool.true_or, beq_self_eq_true, Bool.false_eq_true, ↓reduceIte, if_false, if_true]
      rfl
    · exact ⟨Nat.zero_le _, by simp⟩
    · rintro n i ⟨hi, ht⟩ next
      simp only [go_sem, seval, List.length_map]
      refine ex_br (fun h => ?_) (fun h => ?_)
      · have hlt : i < a.length := by simpa using h
        obtain ⟨x, ex⟩ : ∃ x, a[i]? = some x := ⟨_, List.getElem?_eq_getElem hlt⟩
        obtain ⟨y, ey⟩ : ∃ y, b[i]? = some y := ⟨_, List.getElem?_eq_getElem (by omega)⟩
        simp only [go_sem, seval]
        refine ex_draw [] [] (.quiet 0 (.quiet 1 (.quiet 2 (.quiet 3 (.quiet 4 (.quiet 5 (.quiet 6 (.quiet 7 (.quiet 8 (.fin)))))))))) (by kernel_rfl) ?_
        simp only [go_sem, seval, List.length_map, List.getElem?_map, ex, ey, Int.toNat_natCast]
        repeat with_reducible refine And.intro (by first | omega | (simp only [List.length_cons, List.length_append, List.length_nil, List.length_map, List.length_take, List.length_drop, List.length_set]; omega)) ?_
        refine ex_br (fun hne => ?_) (fun hne => ?_)
        · rw [decide_eq_false (ne_of_get ex ey (by simpa using hne))]
          simp only [go_sem, seval]
          refine finOne ?_ (fun _ e => by cases e)
          show resOf _ _ [.tmp 4] = _
          simp only [go_sem, seval]
        · have hxy : x = y := by simpa using hne
          subst hxy
          simp only [go_sem, seval]
          refine next (i + 1) _ ⟨by omega, take_eq_succ ht ex ey⟩ (by omega) ?_
          rw [← wi64_nat i (by omega)]
          simp only [ASt.keep, consIf, keepL, keepV, AV.isBot, List.contains_cons, List.contains_nil, Nat.reduceBEq, Bool.or_false, Bool.false_or, Bool.or_true, Bool.true_or, beq_self_eq_true, Bool.false_eq_true, ↓reduceIte, if_false, if_true]
      · have hge : i = a.length := by simp at h; omega
        rw [decide_eq_true (eq_of_takes hl hge ht)]
        simp only [go_sem, seval]
        refine finOne ?_ (fun _ e => by cases e)
        show resOf _ _ [.tmp 4] = _
        simp only [go_sem, seval]

/-! Two transactions. -/
def eqTx (a b : TxD) : Bool := (a.frm == b.frm) && ((a.nonce == b.nonce) && (decide (a.tip = b.tip) && (decide (a.cap = b.cap) && (decide (a.bcap = b.bcap) && (decide (a.value = b.value) && ((a.gas == b.gas) && (decide (a.hashes = b.hashes) && decide (a.blobs = b.blobs))))))))
theorem eqTx_iff (a b : TxD) : eqTx a b = true ↔ a = b := by
  cases a; cases b
  simp only [eqTx, Bool.and_eq_true, beq_iff_eq, decide_eq_true_eq, TxD.mk.injEq]
instance : DecidableEq TxD := fun a b => decidable_of_iff (eqTx a b = true) (eqTx_iff a b)
theorem eqTx_dec (a b : TxD) : eqTx a b = decide (a = b) := by
  rw [Bool.eq_iff_iff, eqTx_iff]; simp
theorem u_inj {n m : Nat} (hn : n < U) (hm : m < U) (h : u n = u m) : n = m := by
  obtain ⟨a, b, c, d, h0, h1, h2, h3, rfl⟩ := u_limbs n hn
  obtain ⟨a', b', c', d', k0, k1, k2, k3, rfl⟩ := u_limbs m hm
  rw [u_eq h0 h1 h2 h3 rfl, u_eq k0 k1 k2 k3 rfl] at h
  injection h with h
  simp only [List.cons.injEq, AV.int.injEq, true_and, and_true] at h
  omega
theorem eqU (n m : Nat) (hn : n < U) (hm : m < U) : ((lim n 0 == lim m 0) && ((lim n 1 == lim m 1) && ((lim n 2 == lim m 2) && (lim n 3 == lim m 3)))) = decide (n = m) := by
  rw [Bool.eq_iff_iff]
  simp only [Bool.and_eq_true, beq_iff_eq, decide_eq_true_eq]
  constructor
  · rintro ⟨e0, e1, e2, e3⟩
    refine u_inj hn hm ?_
    unfold u
    rw [e0, e1, e2, e3]
  · rintro rfl
    exact ⟨rfl, rfl, rfl, rfl⟩
theorem c_EqTx (a b : TxD) (ha : a.ok) (hb : b.ok) : Contract Try.prog 31 [a.av, b.av] (.bool (decide (a = b))) := by
  rw [← eqTx_dec]
  have e1 := eqU a.tip b.tip ha.tip hb.tip
  have e2 := eqU a.cap b.cap ha.cap hb.cap
  have e3 := eqU a.bcap b.bcap ha.bcap hb.bcap
  have e4 := eqU a.value b.value ha.value hb.value
  refine contract_of (C := cf 66 [2, 3, 4] (fun _ => [])) (cf_ok _ _ _) (fn := Try.f31) Try.func31 (by kernel_rfl) rfl (by kernel_rfl) (by simp [cf]) (plain2 a.plain b.plain) (by decide) (noCell (by kernel_rfl)) ?_
  simp only [go_sem, seval, TxD.av, TxD.cells, ints, strs]
  cases h1 : (a.frm == b.frm)
  · have e : eqTx a b = false := by unfold eqTx; rw [h1]; rfl
    simp only [go_sem, seval, e]
    refine finOne ?_ (fun _ e => by cases e)
    show resOf _ _ [.tmp 4] = _
    simp only [go_sem, seval]
  simp only [go_sem, seval]
  cases h2 : (a.nonce == b.nonce)
  · have e : eqTx a b = false := by unfold eqTx; rw [h1, h2]; rfl
    simp only [go_sem, seval, e]
    refine finOne ?_ (fun _ e => by cases e)
    show resOf _ _ [.tmp 4] = _
    simp only [go_sem, seval]
  simp only [go_sem, seval, e1]
  cases h3 : decide (a.tip = b.tip)
  · have e : eqTx a b = false := by unfold eqTx; rw [h1, h2, h3]; rfl
    simp only [go_sem, seval, e]
    refine finOne ?_ (fun _ e => by cases e)
    show resOf _ _ [.tmp 4] = _
    simp only [go_sem, seval]
  simp only [go_sem, seval, e2]
  cases h4 : decide (a.cap = b.cap)
  · have e : eqTx a b = false := by unfold eqTx; rw [h1, h2, h3, h4]; rfl
    simp only [go_sem, seval, e]
    refine finOne ?_ (fun _ e => by cases e)
    show resOf _ _ [.tmp 4] = _
    simp only [go_sem, seval]
  simp only [go_sem, seval, e3]
  cases h5 : decide (a.bcap = b.bcap)
  · have e : eqTx a b = false := by unfold eqTx; rw [h1, h2, h3, h4, h5]; rfl
    simp only [go_sem, seval, e]
    refine finOne ?_ (fun _ e => by cases e)
    show resOf _ _ [.tmp 4] = _
    simp only [go_sem, seval]
  simp only [go_sem, seval, e4]
  cases h6 : decide (a.value = b.value)
  · have e : eqTx a b = false := by unfold eqTx; rw [h1, h2, h3, h4, h5, h6]; rfl
    simp only [go_sem, seval, e]
    refine finOne ?_ (fun _ e => by cases e)
    show resOf _ _ [.tmp 4] = _
    simp only [go_sem, seval]
  simp only [go_sem, seval]
  cases h7 : (a.gas == b.gas)
  · have e : eqTx a b = false := by unfold eqTx; rw [h1, h2, h3, h4, h5, h6, h7]; rfl
    simp only [go_sem, seval, e]
    refine finOne ?_ (fun _ e => by cases e)
    show resOf _ _ [.tmp 4] = _
    simp only [go_sem, seval]
  simp only [go_sem, seval]
  refine ex_call (by exact c_EqMarks a.hashes b.hashes ha.hashes hb.hashes) ?_
  cases h8 : decide (a.hashes = b.hashes)
  · have e : eqTx a b = false := by unfold eqTx; rw [h1, h2, h3, h4, h5, h6, h7, h8]; rfl
    simp only [go_sem, seval, e]
    refine finOne ?_ (fun _ e => by cases e)
    show resOf _ _ [.tmp 4] = _
    simp only [go_sem, seval]
  simp only [go_sem, seval]
  refine ex_call (by exact c_EqStrings a.blobs b.blobs ha.blobs hb.blobs) ?_
  have e : eqTx a b = decide (a.blobs = b.blobs) := by unfold eqTx; rw [h1, h2, h3, h4, h5, h6, h7, h8]; rfl
  simp only [go_sem, seval, e]
  refine finOne ?_ (fun _ e => by cases e)
  show resOf _ _ [.tmp 4] = _
  simp only [go_sem, seval]
end Go.Proofs.Ytfafaiicbhcfdaa.VA
end
section
/- Questions of the laws on transactions. -/
namespace Go.Proofs.Ytfafaiicbhcfdaa.VA
set_option maxRecDepth 10000
set_option linter.unusedSimpArgs false
set_option linter.unusedVariables false
set_option maxHeartbeats 8000000

structure Ask7 where
  t : TxD
  s : List UInt8
  base : Nat
def Ask7.av (a : Ask7) : AV := .agg [.int .i64 a.t.frm, .int .i64 a.t.nonce, .int .u64 (lim a.t.tip 0), .int .u64 (lim a.t.tip 1), .int .u64 (lim a.t.tip 2), .int .u64 (lim a.t.tip 3),
  .int .u64 (lim a.t.cap 0), .int .u64 (lim a.t.cap 1), .int .u64 (lim a.t.cap 2), .int .u64 (lim a.t.cap 3), .int .u64 (lim a.t.bcap 0), .int .u64 (lim a.t.bcap 1), .int .u64 (lim a.t.bcap 2), .int .u64 (lim a.t.bcap 3),
  .int .u64 (lim a.t.value 0), .int .u64 (lim a.t.value 1), .int .u64 (lim a.t.value 2), .int .u64 (lim a.t.value 3), .int .i64 a.t.gas, .sl false 1 (a.t.hashes.map (AV.int .u64)), .sl false 1 (a.t.blobs.map AV.str), .str a.s, .int .u64 (lim a.base 0), .int .u64 (lim a.base 1), .int .u64 (lim a.base 2), .int .u64 (lim a.base 3)]
structure Ask7.ok (a : Ask7) : Prop where
  t : a.t.ok
  s : a.s.length ≤ reachBytes
  base : a.base < U
def asks7 (l : List Ask7) : AV := .sl false 26 (l.map Ask7.av)
theorem Ask7.plain (a : Ask7) : Plain a.av := .agg _ fun c hc => by
  simp only [List.mem_cons, List.not_mem_nil, or_false] at hc
  rcases hc with rfl | rfl | rfl | rfl | rfl | rfl | rfl | rfl | rfl | rfl | rfl | rfl | rfl | rfl | rfl | rfl | rfl | rfl | rfl | rfl | rfl | rfl | rfl | rfl | rfl | rfl <;> first | exact .int _ _ | exact ints_plain _ _ | exact strs_plain _ | exact .str _
theorem asks7_plain (l : List Ask7) : Plain (asks7 l) := .sl 26 _ fun c hc => by
  obtain ⟨a, _, rfl⟩ := List.mem_map.1 hc
  exact a.plain
theorem ty_ask7 {x : AV} (h : Ty ti 32 x) : ∃ q : Ask7, x = q.av ∧ q.ok := by
  obtain ⟨xs, rfl, hn, hall⟩ := ty_struct (fs := [(0, 21, 30), (21, 1, 9), (22, 4, 26)]) (by rw [ti32]) h
  match xs, hn with
  | [x0, x1, x2], _ =>
    obtain ⟨a, rfl, ha⟩ := ty_tx (hall 0 _ _ _ x0 rfl rfl)
    obtain ⟨s, rfl, hs⟩ := ty_str (by rw [ti9]) (hall 1 _ _ _ x1 rfl rfl)
    obtain ⟨b, rfl, hb⟩ := ty_u (hall 2 _ _ _ x2 rfl rfl)
    exact ⟨⟨a, s, b⟩, rfl, ha, hs, hb⟩
theorem ty_asks7 {x : AV} (h : Ty ti 22 x) : ∃ l : List Ask7, x = asks7 l ∧ l.length ≤ 1099511627776 ∧ ∀ a ∈ l, a.ok := by
  obtain ⟨es, rfl, hs, hall⟩ := ty_slice (e := 32) (esz := 26) (eb := 248) (by rw [ti22]) h
  obtain ⟨l, rfl, hl⟩ := ty_map (f := Ask7.av) (fun y hy => ty_ask7 hy) es hall
  exact ⟨l, rfl, by rw [List.length_map] at hs; unfold reachBytes at hs; omega, hl⟩
def heavy7 (a : Ask7) : Bool := decide (weightOf a.t > 2000) || decide (a.s.length > 5000)
theorem heavy7_no {a : Ask7} (h : heavy7 a = false) : a.s.length ≤ 5000 := by
  unfold heavy7 at h
  simp only [Bool.or_eq_false_iff, decide_eq_false_iff_not] at h
  omega
abbrev txC (t : TxD) : AV := .agg [.int .i64 t.frm, .int .i64 t.nonce, .int .u64 (lim t.tip 0), .int .u64 (lim t.tip 1), .int .u64 (lim t.tip 2), .int .u64 (lim t.tip 3),
  .int .u64 (lim t.cap 0), .int .u64 (lim t.cap 1), .int .u64 (lim t.cap 2), .int .u64 (lim t.cap 3), .int .u64 (lim t.bcap 0), .int .u64 (lim t.bcap 1), .int .u64 (lim t.bcap 2), .int .u64 (lim t.bcap 3),
  .int .u64 (lim t.value 0), .int .u64 (lim t.value 1), .int .u64 (lim t.value 2), .int .u64 (lim t.value 3), .int .i64 t.gas, .sl false 1 (t.hashes.map (AV.int .u64)), .sl false 1 (t.blobs.map AV.str)]
abbrev uC (n : Nat) : AV := .agg [.int .u64 (lim n 0), .int .u64 (lim n 1), .int .u64 (lim n 2), .int .u64 (lim n 3)]
theorem c_law7_heavy (a : Ask7) (h : a.ok) : Contract Try.prog 27 [a.av] (.bool (heavy7 a)) := by
  have hw : Contract Try.prog 17 [txC a.t] (.int .i64 (weightOf a.t)) := c_TxWeight a.t h.t
  have hs := h.s
  unfold reachBytes at hs
  unfold heavy7
  refine contract_of (C := cf 13 [1, 2] (fun _ => [])) (cf_ok _ _ _) (fn := Try.f27) Try.func27 (by kernel_rfl) rfl (by kernel_rfl) (by simp [cf]) (plain1 a.plain) (by decide) (noCell (by kernel_rfl)) ?_
  simp only [go_sem, seval, Ask7.av]
  refine ex_call (by exact hw) ?_
  have e : decide ((a.s.length : Int) > 5000) = decide (a.s.length > 5000) := decide_congr (by omega)
  cases hd : decide (weightOf a.t > 2000) with
  | true =>
    simp only [go_sem, seval, hd]
    refine finOne ?_ (fun _ e => by cases e)
    show resOf _ _ [.tmp 2] = _
    simp only [go_sem, seval]
  | false =>
    simp only [go_sem, seval, hd, e]
    refine finOne ?_ (fun _ e => by cases e)
    show resOf _ _ [.tmp 2] = _
    simp only [go_sem, seval]
theorem c_law7_num (e : Int) : Contract Try.prog 30 [.int .i64 e] (.int .i64 e) := by
  refine contract_of (C := cf 4 [0, 2] (fun _ => [])) (cf_ok _ _ _) (fn := Try.f30) Try.func30 (by kernel_rfl) rfl (by kernel_rfl) (by simp [cf]) (plain1 (.int _ e)) (by decide) (noCell (by kernel_rfl)) ?_
  simp only [go_sem, seval]
  refine finOne ?_ (fun _ e => by cases e)
  show resOf _ _ [.tmp 2] = _
  simp only [go_sem, seval]
/-! The contracts, with their values told whole. -/
theorem q_Tx (t : TxD) (h : t.ok) : Contract Try.prog 19 [txC t] (.bool (validTx t)) := c_ref7_Tx t h
theorem q_Check (t : TxD) (h : t.ok) : Contract Try.prog 35 [txC t] (.int .i64 (if validTx t = true then 0 else 1)) := c_tx_Check t h
theorem q_Bytes (t : TxD) (h : t.ok) : Contract Try.prog 34 [txC t] (.tup [.str (bytesTx t), .int .i64 (if validTx t = true then 0 else 1)]) := c_tx_Bytes t h
theorem q_ID (t : TxD) (h : t.ok) : Contract Try.prog 43 [txC t] (.tup [.int .u64 (if validTx t = true then idTx t else 0), .int .i64 (if validTx t = true then 0 else 1)]) := c_tx_ID t h
theorem q_Cost (t : TxD) (h : t.ok) : Contract Try.prog 42 [txC t] (.tup [uC (if validTx t = true then costOf t else 0), .int .i64 (if validTx t = true then 0 else 1)]) := c_tx_Cost t h
theorem q_refBytes (t : TxD) (h : t.ok) (hv : validTx t = true) : Contract Try.prog 21 [txC t] (.str (txRaw t)) := c_ref7_Bytes t h hv
theorem q_refID (t : TxD) (h : t.ok) (hv : validTx t = true) : Contract Try.prog 40 [txC t] (.int .u64 (idTx t)) := c_ref7_ID t h hv
theorem q_refCost (t : TxD) (h : t.ok) (hv : validTx t = true) : Contract Try.prog 41 [txC t] (.tup [uC (costOf t), .bool true]) := by
  have V := valid_of hv
  have := c_ref7_Cost t h V.gas V.four
  rw [if_pos V.cost, decide_eq_true V.cost] at this
  exact this
theorem q_Take (s : List UInt8) (hs : s.length ≤ 4194304) (t : TxD) (h : takeTx s = some t) : Contract Try.prog 28 [.str s] (.tup [txC t, .int .i64 (0 : Int)]) := by
  have := c_tx_Take s hs
  rw [h] at this
  exact this
abbrev zeroC : AV := .agg [.int .i64 (0 : Int), .int .i64 (0 : Int), .int .u64 (0 : Int), .int .u64 (0 : Int), .int .u64 (0 : Int), .int .u64 (0 : Int), .int .u64 (0 : Int), .int .u64 (0 : Int), .int .u64 (0 : Int), .int .u64 (0 : Int), .int .u64 (0 : Int), .int .u64 (0 : Int), .int .u64 (0 : Int), .int .u64 (0 : Int), .int .u64 (0 : Int), .int .u64 (0 : Int), .int .u64 (0 : Int), .int .u64 (0 : Int), .int .i64 (0 : Int), .sl false 1 [], .sl false 1 []]
theorem zero_av : zeroTx.av = zeroC := by
  unfold zeroTx TxD.av TxD.cells ints strs
  simp only [lim_zero, List.map_nil]
theorem q_TakeN (s : List UInt8) (hs : s.length ≤ 4194304) (h : takeTx s = none) : Contract Try.prog 28 [.str s] (.tup [zeroC, .int .i64 (1 : Int)]) := by
  have := c_tx_Take s hs
  rw [h] at this
  unfold resTk at this
  rw [zero_av] at this
  exact this
theorem q_Eq (t : TxD) (h : t.ok) : Contract Try.prog 31 [txC t, txC t] (.bool true) := by
  have := c_EqTx t t h h
  rw [decide_eq_true rfl] at this
  exact this
theorem q_Copy (t : TxD) (h : t.ok) : Contract Try.prog 38 [txC t] (txC t) := c_CopyTx t h
def tx123 : TxD := plainTx 1 2 3
theorem tx123_ok : tx123.ok := plain_ok 1 2 3 (by omega) (by omega) (by decide)
theorem tx123_valid : validTx tx123 = true := by decide +kernel
theorem tx123_E : tx123.av = .agg [.int .i64 (1 : Int), .int .i64 (2 : Int), .int .u64 (3 : Int), .int .u64 (0 : Int), .int .u64 (0 : Int), .int .u64 (0 : Int), .int .u64 (6 : Int), .int .u64 (0 : Int), .int .u64 (0 : Int), .int .u64 (0 : Int), .int .u64 (3 : Int), .int .u64 (0 : Int), .int .u64 (0 : Int), .int .u64 (0 : Int), .int .u64 (0 : Int), .int .u64 (0 : Int), .int .u64 (0 : Int), .int .u64 (0 : Int), .int .i64 (1 : Int), .sl false 1 [.int .u64 (hashOf [98])], .sl false 1 [.str [98]]] := by
  have l3 := lims_small 3 (by decide)
  have l6 := lims_small (2 * 3) (by decide)
  unfold tx123 plainTx TxD.av TxD.cells ints strs
  simp only [l3.1, l3.2, l6.1, l6.2, lim_zero, List.map_cons, List.map_nil]
  rfl
theorem c_law7_wakes : Contract Try.prog 33 [] (.bool true) := by
  have hT : Contract Try.prog 36 [.int .i64 (1 : Int), .int .i64 (2 : Int), .int .u64 (3 : Int)] tx123.av := c_T 1 2 3 (by decide)
  have hB := c_tx_Bytes tx123 tx123_ok
  have hl := txRaw_len tx123_ok (valid_of tx123_valid)
  have hK := c_tx_Take (txRaw tx123) (by omega)
  rw [take_tx tx123_ok tx123_valid] at hK
  have hE := c_EqTx tx123 tx123 tx123_ok tx123_ok
  rw [decide_eq_true rfl] at hE
  unfold resTk at hK
  unfold bytesTx at hB
  rw [tx123_valid, if_pos rfl, if_pos rfl] at hB
  rw [tx123_E] at hT hB hE
  simp only at hK
  rw [tx123_E] at hK
  refine contract_of (C := cf 28 [0, 1, 2, 3, 4] (fun _ => [])) (cf_ok _ _ _) (fn := Try.f33) Try.func33 (by kernel_rfl) rfl (by kernel_rfl) (by simp [cf]) (fun _ h => by cases h) (by decide) (noCell (by kernel_rfl)) ?_
  simp only [go_sem, seval]
  refine ex_call (by exact hT) ?_
  simp only [go_sem, seval]
  refine ex_call (by exact hB) ?_
  simp only [go_sem, seval]
  refine ex_call (by exact hK) ?_
  simp only [go_sem, seval]
  refine ex_draw [] [] (.quiet 0 (.one 1 (.quiet 2 (.quiet 3 (.quiet 4 (.one 5 (.quiet 6 (.quiet 7 (.quiet 8 (.quiet 9 (.one 10 (.one 11 (.quiet 12 (.quiet 13 (.fin))))))))))))))) (by kernel_rfl) ?_
  simp only [go_sem, seval]
  refine ex_call (by exact c_law7_num _) ?_
  simp only [go_sem, seval]
  refine ex_call (by exact c_law7_num _) ?_
  simp only [go_sem, seval]
  refine ex_call (by exact hT) ?_
  simp only [go_sem, seval]
  refine ex_call (by exact hE) ?_
  simp only [go_sem, seval]
  refine finOne ?_ (fun _ e => by cases e)
  show resOf _ _ [.tmp 0] = _
  simp only [go_sem, seval]
end Go.Proofs.Ytfafaiicbhcfdaa.VA
end
section
/- TxWrongs: the law's function answers true. -/
namespace Go.Proofs.Ytfafaiicbhcfdaa.VA
set_option maxRecDepth 10000
set_option linter.unusedSimpArgs false
set_option linter.unusedVariables false
set_option maxHeartbeats 16000000

theorem asU8_zeros7 : ∀ n : Nat, asU8 (List.replicate n (AV.int .u8 0)) = some (List.replicate n 0)
  | 0 => rfl
  | n + 1 => by rw [List.replicate_succ, asU8, asU8_zeros7 n]; rfl
theorem c_Most : Contract Try.prog 37 [] (.agg [.int .u64 (18446744073709551615 : Int), .int .u64 (18446744073709551615 : Int), .int .u64 (18446744073709551615 : Int), .int .u64 (18446744073709551615 : Int)]) := by
  refine contract_of (C := cf 2 [0] (fun _ => [])) (cf_ok _ _ _) (fn := Try.f37) Try.func37 (by kernel_rfl) rfl (by kernel_rfl) (by simp [cf]) (fun _ h => by cases h) (by decide) (cellsOk (by kernel_rfl)) ?_
  simp only [go_sem, seval]
  refine finOne ?_ (fun _ e => by cases e)
  show resOf _ _ [.cell 0 26] = _
  simp only [go_sem, seval]
theorem bad_Check (t : TxD) (h : t.ok) (hv : validTx t = false) {cs : List AV} (e : t.cells = cs) : Contract Try.prog 35 [.agg cs] (.int .i64 (1 : Int)) := by
  have := c_tx_Check t h
  rw [hv, if_neg (by simp)] at this
  rw [← e]; exact this
theorem good_Check (t : TxD) (h : t.ok) (hv : validTx t = true) {cs : List AV} (e : t.cells = cs) : Contract Try.prog 35 [.agg cs] (.int .i64 (0 : Int)) := by
  have := c_tx_Check t h
  rw [hv, if_pos rfl] at this
  rw [← e]; exact this
theorem T_is (f n : Int) (p : Nat) (hp : 2 * p < 18446744073709551616) {cs : List AV} (e : (plainTx f n p).cells = cs) : Contract Try.prog 36 [.int .i64 f, .int .i64 n, .int .u64 p] (.agg cs) := by
  have := c_T f n p hp
  rw [← e]; exact this
theorem w0 : Contract Try.prog 35 [.agg [.int .i64 (-1 : Int), .int .i64 (4 : Int), .int .u64 (5 : Int), .int .u64 (0 : Int), .int .u64 (0 : Int), .int .u64 (0 : Int), .int .u64 (10 : Int), .int .u64 (0 : Int), .int .u64 (0 : Int), .int .u64 (0 : Int), .int .u64 (5 : Int), .int .u64 (0 : Int), .int .u64 (0 : Int), .int .u64 (0 : Int), .int .u64 (0 : Int), .int .u64 (0 : Int), .int .u64 (0 : Int), .int .u64 (0 : Int), .int .i64 (1 : Int), .sl false 1 [.int .u64 (hashOf [98])], .sl false 1 [.str [98]]]] (.int .i64 (1 : Int)) :=
  bad_Check { plainTx 3 4 5 with frm := -1 } (by constructor <;> first | decide +kernel | (intro b hb; simp only [plainTx, List.mem_cons, List.not_mem_nil, or_false] at hb; subst hb; decide +kernel) | (intro b hb; cases hb; done)) (by decide +kernel) (by kernel_rfl)
theorem w1 : Contract Try.prog 35 [.agg [.int .i64 (8 : Int), .int .i64 (4 : Int), .int .u64 (5 : Int), .int .u64 (0 : Int), .int .u64 (0 : Int), .int .u64 (0 : Int), .int .u64 (10 : Int), .int .u64 (0 : Int), .int .u64 (0 : Int), .int .u64 (0 : Int), .int .u64 (5 : Int), .int .u64 (0 : Int), .int .u64 (0 : Int), .int .u64 (0 : Int), .int .u64 (0 : Int), .int .u64 (0 : Int), .int .u64 (0 : Int), .int .u64 (0 : Int), .int .i64 (1 : Int), .sl false 1 [.int .u64 (hashOf [98])], .sl false 1 [.str [98]]]] (.int .i64 (1 : Int)) :=
  bad_Check { plainTx 3 4 5 with frm := 8 } (by constructor <;> first | decide +kernel | (intro b hb; simp only [plainTx, List.mem_cons, List.not_mem_nil, or_false] at hb; subst hb; decide +kernel) | (intro b hb; cases hb; done)) (by decide +kernel) (by kernel_rfl)
theorem w2 : Contract Try.prog 35 [.agg [.int .i64 (3 : Int), .int .i64 (-1 : Int), .int .u64 (5 : Int), .int .u64 (0 : Int), .int .u64 (0 : Int), .int .u64 (0 : Int), .int .u64 (10 : Int), .int .u64 (0 : Int), .int .u64 (0 : Int), .int .u64 (0 : Int), .int .u64 (5 : Int), .int .u64 (0 : Int), .int .u64 (0 : Int), .int .u64 (0 : Int), .int .u64 (0 : Int), .int .u64 (0 : Int), .int .u64 (0 : Int), .int .u64 (0 : Int), .int .i64 (1 : Int), .sl false 1 [.int .u64 (hashOf [98])], .sl false 1 [.str [98]]]] (.int .i64 (1 : Int)) :=
  bad_Check { plainTx 3 4 5 with nonce := -1 } (by constructor <;> first | decide +kernel | (intro b hb; simp only [plainTx, List.mem_cons, List.not_mem_nil, or_false] at hb; subst hb; decide +kernel) | (intro b hb; cases hb; done)) (by decide +kernel) (by kernel_rfl)
theorem w3 : Contract Try.prog 35 [.agg [.int .i64 (3 : Int), .int .i64 (1099511627777 : Int), .int .u64 (5 : Int), .int .u64 (0 : Int), .int .u64 (0 : Int), .int .u64 (0 : Int), .int .u64 (10 : Int), .int .u64 (0 : Int), .int .u64 (0 : Int), .int .u64 (0 : Int), .int .u64 (5 : Int), .int .u64 (0 : Int), .int .u64 (0 : Int), .int .u64 (0 : Int), .int .u64 (0 : Int), .int .u64 (0 : Int), .int .u64 (0 : Int), .int .u64 (0 : Int), .int .i64 (1 : Int), .sl false 1 [.int .u64 (hashOf [98])], .sl false 1 [.str [98]]]] (.int .i64 (1 : Int)) :=
  bad_Check { plainTx 3 4 5 with nonce := 1099511627777 } (by constructor <;> first | decide +kernel | (intro b hb; simp only [plainTx, List.mem_cons, List.not_mem_nil, or_false] at hb; subst hb; decide +kernel) | (intro b hb; cases hb; done)) (by decide +kernel) (by kernel_rfl)
theorem w4 : Contract Try.prog 35 [.agg [.int .i64 (3 : Int), .int .i64 (4 : Int), .int .u64 (5 : Int), .int .u64 (0 : Int), .int .u64 (0 : Int), .int .u64 (0 : Int), .int .u64 (10 : Int), .int .u64 (0 : Int), .int .u64 (0 : Int), .int .u64 (0 : Int), .int .u64 (5 : Int), .int .u64 (0 : Int), .int .u64 (0 : Int), .int .u64 (0 : Int), .int .u64 (0 : Int), .int .u64 (0 : Int), .int .u64 (0 : Int), .int .u64 (0 : Int), .int .i64 (-1 : Int), .sl false 1 [.int .u64 (hashOf [98])], .sl false 1 [.str [98]]]] (.int .i64 (1 : Int)) :=
  bad_Check { plainTx 3 4 5 with gas := -1 } (by constructor <;> first | decide +kernel | (intro b hb; simp only [plainTx, List.mem_cons, List.not_mem_nil, or_false] at hb; subst hb; decide +kernel) | (intro b hb; cases hb; done)) (by decide +kernel) (by kernel_rfl)
theorem w5 : Contract Try.prog 35 [.agg [.int .i64 (3 : Int), .int .i64 (4 : Int), .int .u64 (5 : Int), .int .u64 (0 : Int), .int .u64 (0 : Int), .int .u64 (0 : Int), .int .u64 (10 : Int), .int .u64 (0 : Int), .int .u64 (0 : Int), .int .u64 (0 : Int), .int .u64 (5 : Int), .int .u64 (0 : Int), .int .u64 (0 : Int), .int .u64 (0 : Int), .int .u64 (0 : Int), .int .u64 (0 : Int), .int .u64 (0 : Int), .int .u64 (0 : Int), .int .i64 (1073741825 : Int), .sl false 1 [.int .u64 (hashOf [98])], .sl false 1 [.str [98]]]] (.int .i64 (1 : Int)) :=
  bad_Check { plainTx 3 4 5 with gas := 1073741825 } (by constructor <;> first | decide +kernel | (intro b hb; simp only [plainTx, List.mem_cons, List.not_mem_nil, or_false] at hb; subst hb; decide +kernel) | (intro b hb; cases hb; done)) (by decide +kernel) (by kernel_rfl)
theorem w6 : Contract Try.prog 35 [.agg [.int .i64 (3 : Int), .int .i64 (4 : Int), .int .u64 (11 : Int), .int .u64 (0 : Int), .int .u64 (0 : Int), .int .u64 (0 : Int), .int .u64 (10 : Int), .int .u64 (0 : Int), .int .u64 (0 : Int), .int .u64 (0 : Int), .int .u64 (5 : Int), .int .u64 (0 : Int), .int .u64 (0 : Int), .int .u64 (0 : Int), .int .u64 (0 : Int), .int .u64 (0 : Int), .int .u64 (0 : Int), .int .u64 (0 : Int), .int .i64 (1 : Int), .sl false 1 [.int .u64 (hashOf [98])], .sl false 1 [.str [98]]]] (.int .i64 (1 : Int)) :=
  bad_Check { plainTx 3 4 5 with tip := 11 } (by constructor <;> first | decide +kernel | (intro b hb; simp only [plainTx, List.mem_cons, List.not_mem_nil, or_false] at hb; subst hb; decide +kernel) | (intro b hb; cases hb; done)) (by decide +kernel) (by kernel_rfl)
theorem w7 : Contract Try.prog 35 [.agg [.int .i64 (3 : Int), .int .i64 (4 : Int), .int .u64 (5 : Int), .int .u64 (0 : Int), .int .u64 (0 : Int), .int .u64 (0 : Int), .int .u64 (10 : Int), .int .u64 (0 : Int), .int .u64 (0 : Int), .int .u64 (0 : Int), .int .u64 (5 : Int), .int .u64 (0 : Int), .int .u64 (0 : Int), .int .u64 (0 : Int), .int .u64 (0 : Int), .int .u64 (0 : Int), .int .u64 (0 : Int), .int .u64 (0 : Int), .int .i64 (1 : Int), .sl false 1 [], .sl false 1 [.str [98]]]] (.int .i64 (1 : Int)) :=
  bad_Check { plainTx 3 4 5 with hashes := [] } (by constructor <;> first | decide +kernel | (intro b hb; simp only [plainTx, List.mem_cons, List.not_mem_nil, or_false] at hb; subst hb; decide +kernel) | (intro b hb; cases hb; done)) (by decide +kernel) (by kernel_rfl)
theorem w8 : Contract Try.prog 35 [.agg [.int .i64 (3 : Int), .int .i64 (4 : Int), .int .u64 (5 : Int), .int .u64 (0 : Int), .int .u64 (0 : Int), .int .u64 (0 : Int), .int .u64 (10 : Int), .int .u64 (0 : Int), .int .u64 (0 : Int), .int .u64 (0 : Int), .int .u64 (5 : Int), .int .u64 (0 : Int), .int .u64 (0 : Int), .int .u64 (0 : Int), .int .u64 (0 : Int), .int .u64 (0 : Int), .int .u64 (0 : Int), .int .u64 (0 : Int), .int .i64 (1 : Int), .sl false 1 [.int .u64 (hashOf [98])], .sl false 1 []]] (.int .i64 (1 : Int)) :=
  bad_Check { plainTx 3 4 5 with blobs := [] } (by constructor <;> first | decide +kernel | (intro b hb; simp only [plainTx, List.mem_cons, List.not_mem_nil, or_false] at hb; subst hb; decide +kernel) | (intro b hb; cases hb; done)) (by decide +kernel) (by kernel_rfl)
theorem w9 : Contract Try.prog 35 [.agg [.int .i64 (3 : Int), .int .i64 (4 : Int), .int .u64 (5 : Int), .int .u64 (0 : Int), .int .u64 (0 : Int), .int .u64 (0 : Int), .int .u64 (10 : Int), .int .u64 (0 : Int), .int .u64 (0 : Int), .int .u64 (0 : Int), .int .u64 (5 : Int), .int .u64 (0 : Int), .int .u64 (0 : Int), .int .u64 (0 : Int), .int .u64 (0 : Int), .int .u64 (0 : Int), .int .u64 (0 : Int), .int .u64 (0 : Int), .int .i64 (1 : Int), .sl false 1 [.int .u64 (5 : Int)], .sl false 1 [.str [98]]]] (.int .i64 (1 : Int)) :=
  bad_Check { plainTx 3 4 5 with hashes := [5] } (by constructor <;> first | decide +kernel | (intro b hb; simp only [plainTx, List.mem_cons, List.not_mem_nil, or_false] at hb; subst hb; decide +kernel) | (intro b hb; cases hb; done)) (by decide +kernel) (by kernel_rfl)
theorem w10 : Contract Try.prog 35 [.agg [.int .i64 (3 : Int), .int .i64 (4 : Int), .int .u64 (5 : Int), .int .u64 (0 : Int), .int .u64 (0 : Int), .int .u64 (0 : Int), .int .u64 (10 : Int), .int .u64 (0 : Int), .int .u64 (0 : Int), .int .u64 (0 : Int), .int .u64 (5 : Int), .int .u64 (0 : Int), .int .u64 (0 : Int), .int .u64 (0 : Int), .int .u64 (0 : Int), .int .u64 (0 : Int), .int .u64 (0 : Int), .int .u64 (0 : Int), .int .i64 (1 : Int), .sl false 1 [.int .u64 (hashOf [98])], .sl false 1 [.str (List.replicate 65 0)]]] (.int .i64 (1 : Int)) :=
  bad_Check { plainTx 3 4 5 with blobs := [List.replicate 65 0] } (by constructor <;> first | decide +kernel | (intro b hb; simp only [plainTx, List.mem_cons, List.not_mem_nil, or_false] at hb; subst hb; decide +kernel) | (intro b hb; cases hb; done)) (by decide +kernel) (by kernel_rfl)
theorem w11 : Contract Try.prog 35 [.agg [.int .i64 (3 : Int), .int .i64 (4 : Int), .int .u64 (5 : Int), .int .u64 (0 : Int), .int .u64 (0 : Int), .int .u64 (0 : Int), .int .u64 (10 : Int), .int .u64 (0 : Int), .int .u64 (0 : Int), .int .u64 (0 : Int), .int .u64 (5 : Int), .int .u64 (0 : Int), .int .u64 (0 : Int), .int .u64 (0 : Int), .int .u64 (18446744073709551615 : Int), .int .u64 (18446744073709551615 : Int), .int .u64 (18446744073709551615 : Int), .int .u64 (18446744073709551615 : Int), .int .i64 (1 : Int), .sl false 1 [.int .u64 (hashOf [98])], .sl false 1 [.str [98]]]] (.int .i64 (1 : Int)) :=
  bad_Check { plainTx 3 4 5 with value := U - 1 } (by constructor <;> first | decide +kernel | (intro b hb; simp only [plainTx, List.mem_cons, List.not_mem_nil, or_false] at hb; subst hb; decide +kernel) | (intro b hb; cases hb; done)) (by decide +kernel) (by kernel_rfl)
theorem w12 : Contract Try.prog 35 [.agg [.int .i64 (3 : Int), .int .i64 (4 : Int), .int .u64 (5 : Int), .int .u64 (0 : Int), .int .u64 (0 : Int), .int .u64 (0 : Int), .int .u64 (18446744073709551615 : Int), .int .u64 (18446744073709551615 : Int), .int .u64 (18446744073709551615 : Int), .int .u64 (18446744073709551615 : Int), .int .u64 (5 : Int), .int .u64 (0 : Int), .int .u64 (0 : Int), .int .u64 (0 : Int), .int .u64 (0 : Int), .int .u64 (0 : Int), .int .u64 (0 : Int), .int .u64 (0 : Int), .int .i64 (2 : Int), .sl false 1 [.int .u64 (hashOf [98])], .sl false 1 [.str [98]]]] (.int .i64 (1 : Int)) :=
  bad_Check { plainTx 3 4 5 with gas := 2, cap := U - 1 } (by constructor <;> first | decide +kernel | (intro b hb; simp only [plainTx, List.mem_cons, List.not_mem_nil, or_false] at hb; subst hb; decide +kernel) | (intro b hb; cases hb; done)) (by decide +kernel) (by kernel_rfl)
theorem w13 : Contract Try.prog 35 [.agg [.int .i64 (3 : Int), .int .i64 (4 : Int), .int .u64 (5 : Int), .int .u64 (0 : Int), .int .u64 (0 : Int), .int .u64 (0 : Int), .int .u64 (10 : Int), .int .u64 (0 : Int), .int .u64 (0 : Int), .int .u64 (0 : Int), .int .u64 (18446744073709551615 : Int), .int .u64 (18446744073709551615 : Int), .int .u64 (18446744073709551615 : Int), .int .u64 (18446744073709551615 : Int), .int .u64 (0 : Int), .int .u64 (0 : Int), .int .u64 (0 : Int), .int .u64 (0 : Int), .int .i64 (1 : Int), .sl false 1 [.int .u64 (hashOf [98])], .sl false 1 [.str [98]]]] (.int .i64 (1 : Int)) :=
  bad_Check { plainTx 3 4 5 with bcap := U - 1 } (by constructor <;> first | decide +kernel | (intro b hb; simp only [plainTx, List.mem_cons, List.not_mem_nil, or_false] at hb; subst hb; decide +kernel) | (intro b hb; cases hb; done)) (by decide +kernel) (by kernel_rfl)
theorem c_TxWrongs (l : List Ask7) (hl : l.length ≤ 1099511627776) : Contract Try.prog 7 [asks7 l] (.bool true) := by
  have t0 := T_is 0 0 0 (by decide) (cs := [.int .i64 (0 : Int), .int .i64 (0 : Int), .int .u64 (0 : Int), .int .u64 (0 : Int), .int .u64 (0 : Int), .int .u64 (0 : Int), .int .u64 (0 : Int), .int .u64 (0 : Int), .int .u64 (0 : Int), .int .u64 (0 : Int), .int .u64 (0 : Int), .int .u64 (0 : Int), .int .u64 (0 : Int), .int .u64 (0 : Int), .int .u64 (0 : Int), .int .u64 (0 : Int), .int .u64 (0 : Int), .int .u64 (0 : Int), .int .i64 (1 : Int), .sl false 1 [.int .u64 (hashOf [98])], .sl false 1 [.str [98]]]) (by kernel_rfl)
  have t1 := T_is 7 1099511627776 5 (by decide) (cs := [.int .i64 (7 : Int), .int .i64 (1099511627776 : Int), .int .u64 (5 : Int), .int .u64 (0 : Int), .int .u64 (0 : Int), .int .u64 (0 : Int), .int .u64 (10 : Int), .int .u64 (0 : Int), .int .u64 (0 : Int), .int .u64 (0 : Int), .int .u64 (5 : Int), .int .u64 (0 : Int), .int .u64 (0 : Int), .int .u64 (0 : Int), .int .u64 (0 : Int), .int .u64 (0 : Int), .int .u64 (0 : Int), .int .u64 (0 : Int), .int .i64 (1 : Int), .sl false 1 [.int .u64 (hashOf [98])], .sl false 1 [.str [98]]]) (by kernel_rfl)
  have t2 := T_is 3 4 5 (by decide) (cs := [.int .i64 (3 : Int), .int .i64 (4 : Int), .int .u64 (5 : Int), .int .u64 (0 : Int), .int .u64 (0 : Int), .int .u64 (0 : Int), .int .u64 (10 : Int), .int .u64 (0 : Int), .int .u64 (0 : Int), .int .u64 (0 : Int), .int .u64 (5 : Int), .int .u64 (0 : Int), .int .u64 (0 : Int), .int .u64 (0 : Int), .int .u64 (0 : Int), .int .u64 (0 : Int), .int .u64 (0 : Int), .int .u64 (0 : Int), .int .i64 (1 : Int), .sl false 1 [.int .u64 (hashOf [98])], .sl false 1 [.str [98]]]) (by kernel_rfl)
  have g0 := good_Check (plainTx 0 0 0) (plain_ok 0 0 0 (by omega) (by omega) (by decide)) (by decide +kernel) (cs := [.int .i64 (0 : Int), .int .i64 (0 : Int), .int .u64 (0 : Int), .int .u64 (0 : Int), .int .u64 (0 : Int), .int .u64 (0 : Int), .int .u64 (0 : Int), .int .u64 (0 : Int), .int .u64 (0 : Int), .int .u64 (0 : Int), .int .u64 (0 : Int), .int .u64 (0 : Int), .int .u64 (0 : Int), .int .u64 (0 : Int), .int .u64 (0 : Int), .int .u64 (0 : Int), .int .u64 (0 : Int), .int .u64 (0 : Int), .int .i64 (1 : Int), .sl false 1 [.int .u64 (hashOf [98])], .sl false 1 [.str [98]]]) (by kernel_rfl)
  have g1 := good_Check (plainTx 7 1099511627776 5) (plain_ok 7 1099511627776 5 (by omega) (by omega) (by decide)) (by decide +kernel) (cs := [.int .i64 (7 : Int), .int .i64 (1099511627776 : Int), .int .u64 (5 : Int), .int .u64 (0 : Int), .int .u64 (0 : Int), .int .u64 (0 : Int), .int .u64 (10 : Int), .int .u64 (0 : Int), .int .u64 (0 : Int), .int .u64 (0 : Int), .int .u64 (5 : Int), .int .u64 (0 : Int), .int .u64 (0 : Int), .int .u64 (0 : Int), .int .u64 (0 : Int), .int .u64 (0 : Int), .int .u64 (0 : Int), .int .u64 (0 : Int), .int .i64 (1 : Int), .sl false 1 [.int .u64 (hashOf [98])], .sl false 1 [.str [98]]]) (by kernel_rfl)
  rw [Int.cast_ofNat_Int] at t0 t1 t2
  refine contract_of (C := cf 82 [0, 2, 3, 4, 14, 16, 20, 21, 24, 27, 30, 33, 36, 39, 43, 46, 49, 53, 59, 63, 68, 75] (fun _ => [])) (cf_ok _ _ _) (fn := Try.f7) Try.func7 (by kernel_rfl) rfl (by kernel_rfl) (by simp [cf]) (plain1 (asks7_plain l)) (by decide) (noCell (by kernel_rfl)) ?_
  simp only [go_sem, seval, asks7]
  refine ex_call (by exact t0) ?_
  simp only [go_sem, seval]
  refine ex_call (by exact g0) ?_
  simp only [go_sem, seval]
  refine ex_call (by exact c_law7_num _) ?_
  simp only [go_sem, seval]
  refine ex_call (by exact t1) ?_
  simp only [go_sem, seval]
  refine ex_call (by exact g1) ?_
  simp only [go_sem, seval]
  refine ex_call (by exact c_law7_num _) ?_
  simp only [go_sem, seval]
  refine ex_loop [0, 3] 15 ?_
  simp only [go_sem, seval, ex_round, Int.cast_ofNat_Int, wi64]
  refine ex_call (by exact t2) ?_
  simp only [go_sem, seval, Int.cast_ofNat_Int, wi64]
  refine ex_call_dull (bs := [.agg [.int .i64 (-1 : Int), .int .i64 (4 : Int), .int .u64 (5 : Int), .int .u64 (0 : Int), .int .u64 (0 : Int), .int .u64 (0 : Int), .int .u64 (10 : Int), .int .u64 (0 : Int), .int .u64 (0 : Int), .int .u64 (0 : Int), .int .u64 (5 : Int), .int .u64 (0 : Int), .int .u64 (0 : Int), .int .u64 (0 : Int), .int .u64 (0 : Int), .int .u64 (0 : Int), .int .u64 (0 : Int), .int .u64 (0 : Int), .int .i64 (1 : Int), .sl false 1 [.int .u64 (hashOf [98])], .sl false 1 [.str [98]]]]) (.cons (by refine dulls_agg ?_; repeat' (first | exact Dulls.nil | exact Dull.refl _ | exact dsl _ _ _ | exact Dull.nil _ _ | refine Dulls.cons ?_ ?_)) .nil) (by exact w0) ?_
  simp only [go_sem, seval, Int.cast_ofNat_Int, wi64]
  refine ex_call (by exact c_law7_num _) ?_
  simp only [go_sem, seval, ex_round, Int.cast_ofNat_Int, wi64]
  refine ex_call (by exact t2) ?_
  simp only [go_sem, seval, Int.cast_ofNat_Int, wi64]
  refine ex_call_dull (bs := [.agg [.int .i64 (8 : Int), .int .i64 (4 : Int), .int .u64 (5 : Int), .int .u64 (0 : Int), .int .u64 (0 : Int), .int .u64 (0 : Int), .int .u64 (10 : Int), .int .u64 (0 : Int), .int .u64 (0 : Int), .int .u64 (0 : Int), .int .u64 (5 : Int), .int .u64 (0 : Int), .int .u64 (0 : Int), .int .u64 (0 : Int), .int .u64 (0 : Int), .int .u64 (0 : Int), .int .u64 (0 : Int), .int .u64 (0 : Int), .int .i64 (1 : Int), .sl false 1 [.int .u64 (hashOf [98])], .sl false 1 [.str [98]]]]) (.cons (by refine dulls_agg ?_; repeat' (first | exact Dulls.nil | exact Dull.refl _ | exact dsl _ _ _ | exact Dull.nil _ _ | refine Dulls.cons ?_ ?_)) .nil) (by exact w1) ?_
  simp only [go_sem, seval, Int.cast_ofNat_Int, wi64]
  refine ex_call (by exact c_law7_num _) ?_
  simp only [go_sem, seval, ex_round, Int.cast_ofNat_Int, wi64]
  refine ex_call (by exact t2) ?_
  simp only [go_sem, seval, Int.cast_ofNat_Int, wi64]
  refine ex_call_dull (bs := [.agg [.int .i64 (3 : Int), .int .i64 (-1 : Int), .int .u64 (5 : Int), .int .u64 (0 : Int), .int .u64 (0 : Int), .int .u64 (0 : Int), .int .u64 (10 : Int), .int .u64 (0 : Int), .int .u64 (0 : Int), .int .u64 (0 : Int), .int .u64 (5 : Int), .int .u64 (0 : Int), .int .u64 (0 : Int), .int .u64 (0 : Int), .int .u64 (0 : Int), .int .u64 (0 : Int), .int .u64 (0 : Int), .int .u64 (0 : Int), .int .i64 (1 : Int), .sl false 1 [.int .u64 (hashOf [98])], .sl false 1 [.str [98]]]]) (.cons (by refine dulls_agg ?_; repeat' (first | exact Dulls.nil | exact Dull.refl _ | exact dsl _ _ _ | exact Dull.nil _ _ | refine Dulls.cons ?_ ?_)) .nil) (by exact w2) ?_
  simp only [go_sem, seval, Int.cast_ofNat_Int, wi64]
  refine ex_call (by exact c_law7_num _) ?_
  simp only [go_sem, seval, ex_round, Int.cast_ofNat_Int, wi64]
  refine ex_call (by exact t2) ?_
  simp only [go_sem, seval, Int.cast_ofNat_Int, wi64]
  refine ex_call_dull (bs := [.agg [.int .i64 (3 : Int), .int .i64 (1099511627777 : Int), .int .u64 (5 : Int), .int .u64 (0 : Int), .int .u64 (0 : Int), .int .u64 (0 : Int), .int .u64 (10 : Int), .int .u64 (0 : Int), .int .u64 (0 : Int), .int .u64 (0 : Int), .int .u64 (5 : Int), .int .u64 (0 : Int), .int .u64 (0 : Int), .int .u64 (0 : Int), .int .u64 (0 : Int), .int .u64 (0 : Int), .int .u64 (0 : Int), .int .u64 (0 : Int), .int .i64 (1 : Int), .sl false 1 [.int .u64 (hashOf [98])], .sl false 1 [.str [98]]]]) (.cons (by refine dulls_agg ?_; repeat' (first | exact Dulls.nil | exact Dull.refl _ | exact dsl _ _ _ | exact Dull.nil _ _ | refine Dulls.cons ?_ ?_)) .nil) (by exact w3) ?_
  simp only [go_sem, seval, Int.cast_ofNat_Int, wi64]
  refine ex_call (by exact c_law7_num _) ?_
  simp only [go_sem, seval, ex_round, Int.cast_ofNat_Int, wi64]
  refine ex_call (by exact t2) ?_
  simp only [go_sem, seval, Int.cast_ofNat_Int, wi64]
  refine ex_call_dull (bs := [.agg [.int .i64 (3 : Int), .int .i64 (4 : Int), .int .u64 (5 : Int), .int .u64 (0 : Int), .int .u64 (0 : Int), .int .u64 (0 : Int), .int .u64 (10 : Int), .int .u64 (0 : Int), .int .u64 (0 : Int), .int .u64 (0 : Int), .int .u64 (5 : Int), .int .u64 (0 : Int), .int .u64 (0 : Int), .int .u64 (0 : Int), .int .u64 (0 : Int), .int .u64 (0 : Int), .int .u64 (0 : Int), .int .u64 (0 : Int), .int .i64 (-1 : Int), .sl false 1 [.int .u64 (hashOf [98])], .sl false 1 [.str [98]]]]) (.cons (by refine dulls_agg ?_; repeat' (first | exact Dulls.nil | exact Dull.refl _ | exact dsl _ _ _ | exact Dull.nil _ _ | refine Dulls.cons ?_ ?_)) .nil) (by exact w4) ?_
  simp only [go_sem, seval, Int.cast_ofNat_Int, wi64]
  refine ex_call (by exact c_law7_num _) ?_
  simp only [go_sem, seval, ex_round, Int.cast_ofNat_Int, wi64]
  refine ex_call (by exact t2) ?_
  simp only [go_sem, seval, Int.cast_ofNat_Int, wi64]
  refine ex_call_dull (bs := [.agg [.int .i64 (3 : Int), .int .i64 (4 : Int), .int .u64 (5 : Int), .int .u64 (0 : Int), .int .u64 (0 : Int), .int .u64 (0 : Int), .int .u64 (10 : Int), .int .u64 (0 : Int), .int .u64 (0 : Int), .int .u64 (0 : Int), .int .u64 (5 : Int), .int .u64 (0 : Int), .int .u64 (0 : Int), .int .u64 (0 : Int), .int .u64 (0 : Int), .int .u64 (0 : Int), .int .u64 (0 : Int), .int .u64 (0 : Int), .int .i64 (1073741825 : Int), .sl false 1 [.int .u64 (hashOf [98])], .sl false 1 [.str [98]]]]) (.cons (by refine dulls_agg ?_; repeat' (first | exact Dulls.nil | exact Dull.refl _ | exact dsl _ _ _ | exact Dull.nil _ _ | refine Dulls.cons ?_ ?_)) .nil) (by exact w5) ?_
  simp only [go_sem, seval, Int.cast_ofNat_Int, wi64]
  refine ex_call (by exact c_law7_num _) ?_
  simp only [go_sem, seval, ex_round, Int.cast_ofNat_Int, wi64]
  refine ex_call (by exact t2) ?_
  simp only [go_sem, seval, Int.cast_ofNat_Int, wi64]
  refine ex_call_dull (bs := [.agg [.int .i64 (3 : Int), .int .i64 (4 : Int), .int .u64 (11 : Int), .int .u64 (0 : Int), .int .u64 (0 : Int), .int .u64 (0 : Int), .int .u64 (10 : Int), .int .u64 (0 : Int), .int .u64 (0 : Int), .int .u64 (0 : Int), .int .u64 (5 : Int), .int .u64 (0 : Int), .int .u64 (0 : Int), .int .u64 (0 : Int), .int .u64 (0 : Int), .int .u64 (0 : Int), .int .u64 (0 : Int), .int .u64 (0 : Int), .int .i64 (1 : Int), .sl false 1 [.int .u64 (hashOf [98])], .sl false 1 [.str [98]]]]) (.cons (by refine dulls_agg ?_; repeat' (first | exact Dulls.nil | exact Dull.refl _ | exact dsl _ _ _ | exact Dull.nil _ _ | refine Dulls.cons ?_ ?_)) .nil) (by exact w6) ?_
  simp only [go_sem, seval, Int.cast_ofNat_Int, wi64]
  refine ex_call (by exact c_law7_num _) ?_
  simp only [go_sem, seval, ex_round, Int.cast_ofNat_Int, wi64]
  refine ex_call (by exact t2) ?_
  simp only [go_sem, seval, Int.cast_ofNat_Int, wi64]
  refine ex_call_dull (bs := [.agg [.int .i64 (3 : Int), .int .i64 (4 : Int), .int .u64 (5 : Int), .int .u64 (0 : Int), .int .u64 (0 : Int), .int .u64 (0 : Int), .int .u64 (10 : Int), .int .u64 (0 : Int), .int .u64 (0 : Int), .int .u64 (0 : Int), .int .u64 (5 : Int), .int .u64 (0 : Int), .int .u64 (0 : Int), .int .u64 (0 : Int), .int .u64 (0 : Int), .int .u64 (0 : Int), .int .u64 (0 : Int), .int .u64 (0 : Int), .int .i64 (1 : Int), .sl false 1 [], .sl false 1 [.str [98]]]]) (.cons (by refine dulls_agg ?_; repeat' (first | exact Dulls.nil | exact Dull.refl _ | exact dsl _ _ _ | exact Dull.nil _ _ | refine Dulls.cons ?_ ?_)) .nil) (by exact w7) ?_
  simp only [go_sem, seval, Int.cast_ofNat_Int, wi64]
  refine ex_call (by exact c_law7_num _) ?_
  simp only [go_sem, seval, ex_round, Int.cast_ofNat_Int, wi64]
  refine ex_call (by exact t2) ?_
  simp only [go_sem, seval, Int.cast_ofNat_Int, wi64]
  refine ex_call_dull (bs := [.agg [.int .i64 (3 : Int), .int .i64 (4 : Int), .int .u64 (5 : Int), .int .u64 (0 : Int), .int .u64 (0 : Int), .int .u64 (0 : Int), .int .u64 (10 : Int), .int .u64 (0 : Int), .int .u64 (0 : Int), .int .u64 (0 : Int), .int .u64 (5 : Int), .int .u64 (0 : Int), .int .u64 (0 : Int), .int .u64 (0 : Int), .int .u64 (0 : Int), .int .u64 (0 : Int), .int .u64 (0 : Int), .int .u64 (0 : Int), .int .i64 (1 : Int), .sl false 1 [.int .u64 (hashOf [98])], .sl false 1 []]]) (.cons (by refine dulls_agg ?_; repeat' (first | exact Dulls.nil | exact Dull.refl _ | exact dsl _ _ _ | exact Dull.nil _ _ | refine Dulls.cons ?_ ?_)) .nil) (by exact w8) ?_
  simp only [go_sem, seval, Int.cast_ofNat_Int, wi64]
  refine ex_call (by exact c_law7_num _) ?_
  simp only [go_sem, seval, ex_round, Int.cast_ofNat_Int, wi64]
  refine ex_call (by exact t2) ?_
  simp only [go_sem, seval, Int.cast_ofNat_Int, wi64]
  refine ex_call_dull (bs := [.agg [.int .i64 (3 : Int), .int .i64 (4 : Int), .int .u64 (5 : Int), .int .u64 (0 : Int), .int .u64 (0 : Int), .int .u64 (0 : Int), .int .u64 (10 : Int), .int .u64 (0 : Int), .int .u64 (0 : Int), .int .u64 (0 : Int), .int .u64 (5 : Int), .int .u64 (0 : Int), .int .u64 (0 : Int), .int .u64 (0 : Int), .int .u64 (0 : Int), .int .u64 (0 : Int), .int .u64 (0 : Int), .int .u64 (0 : Int), .int .i64 (1 : Int), .sl false 1 [.int .u64 (5 : Int)], .sl false 1 [.str [98]]]]) (.cons (by refine dulls_agg ?_; repeat' (first | exact Dulls.nil | exact Dull.refl _ | exact dsl _ _ _ | exact Dull.nil _ _ | refine Dulls.cons ?_ ?_)) .nil) (by exact w9) ?_
  simp only [go_sem, seval, Int.cast_ofNat_Int, wi64]
  refine ex_call (by exact c_law7_num _) ?_
  simp only [go_sem, seval, ex_round, Int.cast_ofNat_Int, wi64]
  refine ex_call (by exact t2) ?_
  simp only [go_sem, seval, Int.cast_ofNat_Int, wi64, asU8_zeros7]
  refine ex_call_dull (bs := [.agg [.int .i64 (3 : Int), .int .i64 (4 : Int), .int .u64 (5 : Int), .int .u64 (0 : Int), .int .u64 (0 : Int), .int .u64 (0 : Int), .int .u64 (10 : Int), .int .u64 (0 : Int), .int .u64 (0 : Int), .int .u64 (0 : Int), .int .u64 (5 : Int), .int .u64 (0 : Int), .int .u64 (0 : Int), .int .u64 (0 : Int), .int .u64 (0 : Int), .int .u64 (0 : Int), .int .u64 (0 : Int), .int .u64 (0 : Int), .int .i64 (1 : Int), .sl false 1 [.int .u64 (hashOf [98])], .sl false 1 [.str (List.replicate 65 0)]]]) (.cons (by refine dulls_agg ?_; repeat' (first | exact Dulls.nil | exact Dull.refl _ | exact dsl _ _ _ | exact Dull.nil _ _ | refine Dulls.cons ?_ ?_)) .nil) (by exact w10) ?_
  simp only [go_sem, seval, Int.cast_ofNat_Int, wi64]
  refine ex_call (by exact c_law7_num _) ?_
  simp only [go_sem, seval, ex_round, Int.cast_ofNat_Int, wi64]
  refine ex_call (by exact t2) ?_
  simp only [go_sem, seval, Int.cast_ofNat_Int, wi64]
  refine ex_call (by exact c_Most) ?_
  simp only [go_sem, seval, Int.cast_ofNat_Int, wi64]
  refine ex_call_dull (bs := [.agg [.int .i64 (3 : Int), .int .i64 (4 : Int), .int .u64 (5 : Int), .int .u64 (0 : Int), .int .u64 (0 : Int), .int .u64 (0 : Int), .int .u64 (10 : Int), .int .u64 (0 : Int), .int .u64 (0 : Int), .int .u64 (0 : Int), .int .u64 (5 : Int), .int .u64 (0 : Int), .int .u64 (0 : Int), .int .u64 (0 : Int), .int .u64 (18446744073709551615 : Int), .int .u64 (18446744073709551615 : Int), .int .u64 (18446744073709551615 : Int), .int .u64 (18446744073709551615 : Int), .int .i64 (1 : Int), .sl false 1 [.int .u64 (hashOf [98])], .sl false 1 [.str [98]]]]) (.cons (by refine dulls_agg ?_; repeat' (first | exact Dulls.nil | exact Dull.refl _ | exact dsl _ _ _ | exact Dull.nil _ _ | refine Dulls.cons ?_ ?_)) .nil) (by exact w11) ?_
  simp only [go_sem, seval, Int.cast_ofNat_Int, wi64]
  refine ex_call (by exact c_law7_num _) ?_
  simp only [go_sem, seval, ex_round, Int.cast_ofNat_Int, wi64]
  refine ex_call (by exact t2) ?_
  simp only [go_sem, seval, Int.cast_ofNat_Int, wi64]
  refine ex_call (by exact c_Most) ?_
  simp only [go_sem, seval, Int.cast_ofNat_Int, wi64]
  refine ex_call_dull (bs := [.agg [.int .i64 (3 : Int), .int .i64 (4 : Int), .int .u64 (5 : Int), .int .u64 (0 : Int), .int .u64 (0 : Int), .int .u64 (0 : Int), .int .u64 (18446744073709551615 : Int), .int .u64 (18446744073709551615 : Int), .int .u64 (18446744073709551615 : Int), .int .u64 (18446744073709551615 : Int), .int .u64 (5 : Int), .int .u64 (0 : Int), .int .u64 (0 : Int), .int .u64 (0 : Int), .int .u64 (0 : Int), .int .u64 (0 : Int), .int .u64 (0 : Int), .int .u64 (0 : Int), .int .i64 (2 : Int), .sl false 1 [.int .u64 (hashOf [98])], .sl false 1 [.str [98]]]]) (.cons (by refine dulls_agg ?_; repeat' (first | exact Dulls.nil | exact Dull.refl _ | exact dsl _ _ _ | exact Dull.nil _ _ | refine Dulls.cons ?_ ?_)) .nil) (by exact w12) ?_
  simp only [go_sem, seval, Int.cast_ofNat_Int, wi64]
  refine ex_call (by exact c_law7_num _) ?_
  simp only [go_sem, seval, ex_round, Int.cast_ofNat_Int, wi64]
  refine ex_call (by exact t2) ?_
  simp only [go_sem, seval, Int.cast_ofNat_Int, wi64]
  refine ex_call (by exact c_Most) ?_
  simp only [go_sem, seval, Int.cast_ofNat_Int, wi64]
  refine ex_call_dull (bs := [.agg [.int .i64 (3 : Int), .int .i64 (4 : Int), .int .u64 (5 : Int), .int .u64 (0 : Int), .int .u64 (0 : Int), .int .u64 (0 : Int), .int .u64 (10 : Int), .int .u64 (0 : Int), .int .u64 (0 : Int), .int .u64 (0 : Int), .int .u64 (18446744073709551615 : Int), .int .u64 (18446744073709551615 : Int), .int .u64 (18446744073709551615 : Int), .int .u64 (18446744073709551615 : Int), .int .u64 (0 : Int), .int .u64 (0 : Int), .int .u64 (0 : Int), .int .u64 (0 : Int), .int .i64 (1 : Int), .sl false 1 [.int .u64 (hashOf [98])], .sl false 1 [.str [98]]]]) (.cons (by refine dulls_agg ?_; repeat' (first | exact Dulls.nil | exact Dull.refl _ | exact dsl _ _ _ | exact Dull.nil _ _ | refine Dulls.cons ?_ ?_)) .nil) (by exact w13) ?_
  simp only [go_sem, seval, Int.cast_ofNat_Int, wi64]
  refine ex_call (by exact c_law7_num _) ?_
  have hlz : decide ((l.length : Int) ≥ 0) = true := decide_eq_true (by omega)
  simp only [go_sem, seval, ex_round, Int.cast_ofNat_Int, wi64, List.length_map, hlz]
  refine ex_call (by exact c_law7_wakes) ?_
  simp only [go_sem, seval]
  refine finOne ?_ (fun _ e => by cases e)
  show resOf _ _ [.tmp 2] = _
  simp only [go_sem, seval]
theorem law_TxWrongs (x : AV) (h : Ty ti 22 x) : Contract Try.prog 7 [x] (.bool true) := by
  obtain ⟨l, rfl, hl, hok⟩ := ty_asks7 h
  exact c_TxWrongs l hl
end Go.Proofs.Ytfafaiicbhcfdaa.VA
end
