/- Transactions: comparisons. Questions of the laws on transactions. Functions that write over the rows of what they are given: what is kept. tarnlaw0.Tx writes over a transaction's rows, and over nothing else. tarnlaw0.Txs, Limbo: they write over rows of transactions, and over nothing else. Laws that write over what they were told: helps. TxTakes: the law. -/
import Derived.Test.YtdenldjlijoeoaaT1
import Derived.Test.YtdenldjlijoeoaaT2
import Derived.Test.YtdenldjlijoeoaaT3
import Derived.Test.YtdenldjlijoeoaaT4
import Derived.Test.YtdenldjlijoeoaaT5
import Derived.Test.YtdenldjlijoeoaaT6
import Derived.Deep.LoopGhost
import Derived.WalkKit
section
/- Transactions: comparisons. -/
namespace Go.Proofs.Ytdenldjlijoeoaa.VA
set_option maxRecDepth 10000
set_option linter.unusedSimpArgs false
set_option linter.unusedVariables false
set_option maxHeartbeats 8000000

theorem take_eq_succ {α : Type} {a b : List α} {i : Nat} {x : α} (h : a.take i = b.take i) (ha : a[i]? = some x) (hb : b[i]? = some x) : a.take (i + 1) = b.take (i + 1) := by
  rw [List.take_add_one, List.take_add_one, h, ha, hb]
theorem eq_of_takes {α : Type} {a b : List α} (hl : a.length = b.length) {i : Nat} (hi : i = a.length) (h : a.take i = b.take i) : a = b := by
  subst hi
  rw [List.take_length, hl, List.take_length] at h
  exact h
theorem ne_of_get {α : Type} {a b : List α} {i : Nat} {x y : α} (ha : a[i]? = some x) (hb : b[i]? = some y) (h : x ≠ y) : a ≠ b := by
  rintro rfl
  rw [ha] at hb
  cases hb
  exact h rfl

theorem c_EqMarks (a b : List Int) (ha : a.length * 8 ≤ reachBytes) (hb : b.length * 8 ≤ reachBytes) : Contract Try.prog 33 [ints .u64 a, ints .u64 b] (.bool (decide (a = b))) := by
  unfold reachBytes at ha hb
  refine contract_of (C := cf 26 [0, 1, 4, 5, 10, 14, 25] (fun _ => [])) (cf_ok _ _ _) (fn := Try.f33) Try.func33 (by kernel_rfl) rfl (by kernel_rfl) (by simp [cf]) (plain2 (ints_plain _ a) (ints_plain _ b)) (by decide) (noCell (by kernel_rfl)) ?_
  simp only [go_sem, seval, ints, List.length_map]
  refine ex_br (fun h => ?_) (fun h => ?_)
  · have hne : a ≠ b := by
      rintro rfl
      simp at h
    rw [decide_eq_false hne]
    simp only [go_sem, seval]
    refine finOne ?_ (fun _ e => by cases e)
    show resOf _ _ [.tmp 4] = _
    simp only [go_sem, seval]
  · have hl : a.length = b.length := by simp at h; omega
    simp only [go_sem, seval]
    refine ex_iter [0, 1, 5] (fun i : Nat => ⟨[(0, .sl false 1 (a.map (AV.int .u64))), (1, .sl false 1 (b.map (AV.int .u64))), (5, .int .i64 i)], []⟩) (fun i => i ≤ a.length ∧ a.take i = b.take i) (fun i => a.length - i) 0 ?_ ?_ ?_
    · simp only [ASt.keep, consIf, keepL, keepV, AV.isBot, List.contains_cons, List.contains_nil, Nat.reduceBEq, Bool.or_false, Bool.false_or, Bool.or_true, Bool.true_or, beq_self_eq_true, Bool.false_eq_true, ↓reduceIte, if_false, if_true]
      rfl
    · exact ⟨Nat.zero_le _, by simp⟩
    · rintro n i ⟨hi, ht⟩ next
      simp only [go_sem, seval, List.length_map]
      refine ex_br (fun h => ?_) (fun h => ?_)
      · have hlt : i < a.length := by simpa using h
        obtain ⟨x, ex⟩ : ∃ x, a[i]? = some x := ⟨_, List.getElem?_eq_getElem hlt⟩
        obtain ⟨y, ey⟩ : ∃ y, b[i]? = some y := ⟨_, List.getElem?_eq_getElem (by omega)⟩
        simp only [go_sem, seval]
        refine ex_draw [] [] (.quiet 0 (.quiet 1 (.quiet 2 (.quiet 3 (.quiet 4 (.quiet 5 (.quiet 6 (.quiet 7 (.quiet 8 (.fin)))))))))) (by kernel_rfl) ?_
        simp only [go_sem, seval, List.length_map, List.getElem?_map, ex, ey, Int.toNat_natCast]
        repeat with_reducible refine And.intro (by first | omega | (simp only [List.length_cons, List.length_append, List.length_nil, List.length_map, List.length_take, List.length_drop, List.length_set]; omega)) ?_
        refine ex_br (fun hne => ?_) (fun hne => ?_)
        · rw [decide_eq_false (ne_of_get ex ey (by simpa using hne))]
          simp only [go_sem, seval]
          refine finOne ?_ (fun _ e => by cases e)
          show resOf _ _ [.tmp 4] = _
          simp only [go_sem, seval]
        · have hxy : x = y := by simpa using hne
          subst hxy
          simp only [go_sem, seval]
          refine next (i + 1) _ ⟨by omega, take_eq_succ ht ex ey⟩ (by omega) ?_
          rw [← wi64_nat i (by omega)]
          simp only [ASt.keep, consIf, keepL, keepV, AV.isBot, List.contains_cons, List.contains_nil, Nat.reduceBEq, Bool.or_false, Bool.false_or, Bool.or_true, Bool.true_or, beq_self_eq_true, Bool.false_eq_true, ↓reduceIte, if_false, if_true]
      · have hge : i = a.length := by simp at h; omega
        rw [decide_eq_true (eq_of_takes hl hge ht)]
        simp only [go_sem, seval]
        refine finOne ?_ (fun _ e => by cases e)
        show resOf _ _ [.tmp 4] = _
        simp only [go_sem, seval]
theorem c_EqStrings (a b : List (List UInt8)) (ha : a.length * 16 ≤ reachBytes) (hb : b.length * 16 ≤ reachBytes) : Contract Try.prog 34 [strs a, strs b] (.bool (decide (a = b))) := by
  unfold reachBytes at ha hb
  refine contract_of (C := cf 26 [0, 1, 4, 5, 10, 14, 25] (fun _ => [])) (cf_ok _ _ _) (fn := Try.f34) Try.func34 (by kernel_rfl) rfl (by kernel_rfl) (by simp [cf]) (plain2 (strs_plain a) (strs_plain b)) (by decide) (noCell (by kernel_rfl)) ?_
  simp only [go_sem, seval, strs, List.length_map]
  refine ex_br (fun h => ?_) (fun h => ?_)
  · have hne : a ≠ b := by
      rintro rfl
      simp at h
    rw [decide_eq_false hne]
    simp only [go_sem, seval]
    refine finOne ?_ (fun _ e => by cases e)
    show resOf _ _ [.tmp 4] = _
    simp only [go_sem, seval]
  · have hl : a.length = b.length := by simp at h; omega
    simp only [go_sem, seval]
    refine ex_iter [0, 1, 5] (fun i : Nat => ⟨[(0, .sl false 1 (a.map AV.str)), (1, .sl false 1 (b.map AV.str)), (5, .int .i64 i)], []⟩) (fun i => i ≤ a.length ∧ a.take i = b.take i) (fun i => a.length - i) 0 ?_ ?_ ?_
    · simp only [ASt.keep, consIf, keepL, keepV, AV.isBot, List.contains_cons, List.contains_nil, Nat.reduceBEq, Bool.or_false, Bool.false_or, Bool.or_true, Bool.true_or, beq_self_eq_true, Bool.false_eq_true, ↓reduceIte, if_false, if_true]
      rfl
    · exact ⟨Nat.zero_le _, by simp⟩
    · rintro n i ⟨hi, ht⟩ next
      simp only [go_sem, seval, List.length_map]
      refine ex_br (fun h => ?_) (fun h => ?_)
      · have hlt : i < a.length := by simpa using h
        obtain ⟨x, ex⟩ : ∃ x, a[i]? = some x := ⟨_, List.getElem?_eq_getElem hlt⟩
        obtain ⟨y, ey⟩ : ∃ y, b[i]? = some y := ⟨_, List.getElem?_eq_getElem (by omega)⟩
        simp only [go_sem, seval]
        refine ex_draw [] [] (.quiet 0 (.quiet 1 (.quiet 2 (.quiet 3 (.quiet 4 (.quiet 5 (.quiet 6 (.quiet 7 (.quiet 8 (.fin)))))))))) (by kernel_rfl) ?_
        simp only [go_sem, seval, List.length_map, List.getElem?_map, ex, ey, Int.toNat_natCast]
        repeat with_reducible refine And.intro (by first | omega | (simp only [List.length_cons, List.length_append, List.length_nil, List.length_map, List.length_take, List.length_drop, List.length_set]; omega)) ?_
        refine ex_br (fun hne => ?_) (fun hne => ?_)
        · rw [decide_eq_false (ne_of_get ex ey (by simpa using hne))]
          simp only [go_sem, seval]
          refine finOne ?_ (fun _ e => by cases e)
          show resOf _ _ [.tmp 4] = _
          simp only [go_sem, seval]
        · have hxy : x = y := by simpa using hne
          subst hxy
          simp only [go_sem, seval]
          refine next (i + 1) _ ⟨by omega, take_eq_succ ht ex ey⟩ (by omega) ?_
          rw [← wi64_nat i (by omega)]
          simp only [ASt.keep, consIf, keepL, keepV, AV.isBot, List.contains_cons, List.contains_nil, Nat.reduceBEq, Bool.or_false, Bool.false_or, Bool.or_true, Bool.true_or, beq_self_eq_true, Bool.false_eq_true, ↓reduceIte, if_false, if_true]
      · have hge : i = a.length := by simp at h; omega
        rw [decide_eq_true (eq_of_takes hl hge ht)]
        simp only [go_sem, seval]
        refine finOne ?_ (fun _ e => by cases e)
        show resOf _ _ [.tmp 4] = _
        simp only [go_sem, seval]

/-! Two transactions. -/
def eqTx (a b : TxD) : Bool := (a.frm == b.frm) && ((a.nonce == b.nonce) && (decide (a.tip = b.tip) && (decide (a.cap = b.cap) && (decide (a.bcap = b.bcap) && (decide (a.value = b.value) && ((a.gas == b.gas) && (decide (a.hashes = b.hashes) && decide (a.blobs = b.blobs))))))))
theorem eqTx_iff (a b : TxD) : eqTx a b = true ↔ a = b := by
  cases a; cases b
  simp only [eqTx, Bool.and_eq_true, beq_iff_eq, decide_eq_true_eq, TxD.mk.injEq]
instance : DecidableEq TxD := fun a b => decidable_of_iff (eqTx a b = true) (eqTx_iff a b)
theorem eqTx_dec (a b : TxD) : eqTx a b = decide (a = b) := by
  rw [Bool.eq_iff_iff, eqTx_iff]; simp
theorem u_inj {n m : Nat} (hn : n < U) (hm : m < U) (h : u n = u m) : n = m := by
  obtain ⟨a, b, c, d, h0, h1, h2, h3, rfl⟩ := u_limbs n hn
  obtain ⟨a', b', c', d', k0, k1, k2, k3, rfl⟩ := u_limbs m hm
  rw [u_eq h0 h1 h2 h3 rfl, u_eq k0 k1 k2 k3 rfl] at h
  injection h with h
  simp only [List.cons.injEq, AV.int.injEq, true_and, and_true] at h
  omega
theorem eqU (n m : Nat) (hn : n < U) (hm : m < U) : ((lim n 0 == lim m 0) && ((lim n 1 == lim m 1) && ((lim n 2 == lim m 2) && (lim n 3 == lim m 3)))) = decide (n = m) := by
  rw [Bool.eq_iff_iff]
  simp only [Bool.and_eq_true, beq_iff_eq, decide_eq_true_eq]
  constructor
  · rintro ⟨e0, e1, e2, e3⟩
    refine u_inj hn hm ?_
    unfold u
    rw [e0, e1, e2, e3]
  · rintro rfl
    exact ⟨rfl, rfl, rfl, rfl⟩
theorem c_EqTx (a b : TxD) (ha : a.ok) (hb : b.ok) : Contract Try.prog 17 [a.av, b.av] (.bool (decide (a = b))) := by
  rw [← eqTx_dec]
  have e1 := eqU a.tip b.tip ha.tip hb.tip
  have e2 := eqU a.cap b.cap ha.cap hb.cap
  have e3 := eqU a.bcap b.bcap ha.bcap hb.bcap
  have e4 := eqU a.value b.value ha.value hb.value
  refine contract_of (C := cf 66 [2, 3, 4] (fun _ => [])) (cf_ok _ _ _) (fn := Try.f17) Try.func17 (by kernel_rfl) rfl (by kernel_rfl) (by simp [cf]) (plain2 a.plain b.plain) (by decide) (noCell (by kernel_rfl)) ?_
  simp only [go_sem, seval, TxD.av, TxD.cells, ints, strs]
  cases h1 : (a.frm == b.frm)
  · have e : eqTx a b = false := by unfold eqTx; rw [h1]; rfl
    simp only [go_sem, seval, e]
    refine finOne ?_ (fun _ e => by cases e)
    show resOf _ _ [.tmp 4] = _
    simp only [go_sem, seval]
  simp only [go_sem, seval]
  cases h2 : (a.nonce == b.nonce)
  · have e : eqTx a b = false := by unfold eqTx; rw [h1, h2]; rfl
    simp only [go_sem, seval, e]
    refine finOne ?_ (fun _ e => by cases e)
    show resOf _ _ [.tmp 4] = _
    simp only [go_sem, seval]
  simp only [go_sem, seval, e1]
  cases h3 : decide (a.tip = b.tip)
  · have e : eqTx a b = false := by unfold eqTx; rw [h1, h2, h3]; rfl
    simp only [go_sem, seval, e]
    refine finOne ?_ (fun _ e => by cases e)
    show resOf _ _ [.tmp 4] = _
    simp only [go_sem, seval]
  simp only [go_sem, seval, e2]
  cases h4 : decide (a.cap = b.cap)
  · have e : eqTx a b = false := by unfold eqTx; rw [h1, h2, h3, h4]; rfl
    simp only [go_sem, seval, e]
    refine finOne ?_ (fun _ e => by cases e)
    show resOf _ _ [.tmp 4] = _
    simp only [go_sem, seval]
  simp only [go_sem, seval, e3]
  cases h5 : decide (a.bcap = b.bcap)
  · have e : eqTx a b = false := by unfold eqTx; rw [h1, h2, h3, h4, h5]; rfl
    simp only [go_sem, seval, e]
    refine finOne ?_ (fun _ e => by cases e)
    show resOf _ _ [.tmp 4] = _
    simp only [go_sem, seval]
  simp only [go_sem, seval, e4]
  cases h6 : decide (a.value = b.value)
  · have e : eqTx a b = false := by unfold eqTx; rw [h1, h2, h3, h4, h5, h6]; rfl
    simp only [go_sem, seval, e]
    refine finOne ?_ (fun _ e => by cases e)
    show resOf _ _ [.tmp 4] = _
    simp only [go_sem, seval]
  simp only [go_sem, seval]
  cases h7 : (a.gas == b.gas)
  · have e : eqTx a b = false := by unfold eqTx; rw [h1, h2, h3, h4, h5, h6, h7]; rfl
    simp only [go_sem, seval, e]
    refine finOne ?_ (fun _ e => by cases e)
    show resOf _ _ [.tmp 4] = _
    simp only [go_sem, seval]
  simp only [go_sem, seval]
  refine ex_call (by exact c_EqMarks a.hashes b.hashes ha.hashes hb.hashes) ?_
  cases h8 : decide (a.hashes = b.hashes)
  · have e : eqTx a b = false := by unfold eqTx; rw [h1, h2, h3, h4, h5, h6, h7, h8]; rfl
    simp only [go_sem, seval, e]
    refine finOne ?_ (fun _ e => by cases e)
    show resOf _ _ [.tmp 4] = _
    simp only [go_sem, seval]
  simp only [go_sem, seval]
  refine ex_call (by exact c_EqStrings a.blobs b.blobs ha.blobs hb.blobs) ?_
  have e : eqTx a b = decide (a.blobs = b.blobs) := by unfold eqTx; rw [h1, h2, h3, h4, h5, h6, h7, h8]; rfl
  simp only [go_sem, seval, e]
  refine finOne ?_ (fun _ e => by cases e)
  show resOf _ _ [.tmp 4] = _
  simp only [go_sem, seval]
end Go.Proofs.Ytdenldjlijoeoaa.VA
end
section
/- Questions of the laws on transactions. -/
namespace Go.Proofs.Ytdenldjlijoeoaa.VA
set_option maxRecDepth 10000
set_option linter.unusedSimpArgs false
set_option linter.unusedVariables false
set_option maxHeartbeats 8000000

structure Ask7 where
  t : TxD
  s : List UInt8
  base : Nat
def Ask7.av (a : Ask7) : AV := .agg [.int .i64 a.t.frm, .int .i64 a.t.nonce, .int .u64 (lim a.t.tip 0), .int .u64 (lim a.t.tip 1), .int .u64 (lim a.t.tip 2), .int .u64 (lim a.t.tip 3),
  .int .u64 (lim a.t.cap 0), .int .u64 (lim a.t.cap 1), .int .u64 (lim a.t.cap 2), .int .u64 (lim a.t.cap 3), .int .u64 (lim a.t.bcap 0), .int .u64 (lim a.t.bcap 1), .int .u64 (lim a.t.bcap 2), .int .u64 (lim a.t.bcap 3),
  .int .u64 (lim a.t.value 0), .int .u64 (lim a.t.value 1), .int .u64 (lim a.t.value 2), .int .u64 (lim a.t.value 3), .int .i64 a.t.gas, .sl false 1 (a.t.hashes.map (AV.int .u64)), .sl false 1 (a.t.blobs.map AV.str), .str a.s, .int .u64 (lim a.base 0), .int .u64 (lim a.base 1), .int .u64 (lim a.base 2), .int .u64 (lim a.base 3)]
structure Ask7.ok (a : Ask7) : Prop where
  t : a.t.ok
  s : a.s.length ≤ reachBytes
  base : a.base < U
def asks7 (l : List Ask7) : AV := .sl false 26 (l.map Ask7.av)
theorem Ask7.plain (a : Ask7) : Plain a.av := .agg _ fun c hc => by
  simp only [List.mem_cons, List.not_mem_nil, or_false] at hc
  rcases hc with rfl | rfl | rfl | rfl | rfl | rfl | rfl | rfl | rfl | rfl | rfl | rfl | rfl | rfl | rfl | rfl | rfl | rfl | rfl | rfl | rfl | rfl | rfl | rfl | rfl | rfl <;> first | exact .int _ _ | exact ints_plain _ _ | exact strs_plain _ | exact .str _
theorem asks7_plain (l : List Ask7) : Plain (asks7 l) := .sl 26 _ fun c hc => by
  obtain ⟨a, _, rfl⟩ := List.mem_map.1 hc
  exact a.plain
theorem ty_ask7 {x : AV} (h : Ty ti 51 x) : ∃ q : Ask7, x = q.av ∧ q.ok := by
  obtain ⟨xs, rfl, hn, hall⟩ := ty_struct (fs := [(0, 21, 49), (21, 1, 9), (22, 4, 45)]) (by rw [ti51]) h
  match xs, hn with
  | [x0, x1, x2], _ =>
    obtain ⟨a, rfl, ha⟩ := ty_tx (hall 0 _ _ _ x0 rfl rfl)
    obtain ⟨s, rfl, hs⟩ := ty_str (by rw [ti9]) (hall 1 _ _ _ x1 rfl rfl)
    obtain ⟨b, rfl, hb⟩ := ty_u (hall 2 _ _ _ x2 rfl rfl)
    exact ⟨⟨a, s, b⟩, rfl, ha, hs, hb⟩
theorem ty_asks7 {x : AV} (h : Ty ti 41 x) : ∃ l : List Ask7, x = asks7 l ∧ l.length ≤ 1099511627776 ∧ ∀ a ∈ l, a.ok := by
  obtain ⟨es, rfl, hs, hall⟩ := ty_slice (e := 51) (esz := 26) (eb := 248) (by rw [ti41]) h
  obtain ⟨l, rfl, hl⟩ := ty_map (f := Ask7.av) (fun y hy => ty_ask7 hy) es hall
  exact ⟨l, rfl, by rw [List.length_map] at hs; unfold reachBytes at hs; omega, hl⟩
def heavy7 (a : Ask7) : Bool := decide (weightOf a.t > 2000) || decide (a.s.length > 5000)
theorem heavy7_no {a : Ask7} (h : heavy7 a = false) : a.s.length ≤ 5000 := by
  unfold heavy7 at h
  simp only [Bool.or_eq_false_iff, decide_eq_false_iff_not] at h
  omega
abbrev txC (t : TxD) : AV := .agg [.int .i64 t.frm, .int .i64 t.nonce, .int .u64 (lim t.tip 0), .int .u64 (lim t.tip 1), .int .u64 (lim t.tip 2), .int .u64 (lim t.tip 3),
  .int .u64 (lim t.cap 0), .int .u64 (lim t.cap 1), .int .u64 (lim t.cap 2), .int .u64 (lim t.cap 3), .int .u64 (lim t.bcap 0), .int .u64 (lim t.bcap 1), .int .u64 (lim t.bcap 2), .int .u64 (lim t.bcap 3),
  .int .u64 (lim t.value 0), .int .u64 (lim t.value 1), .int .u64 (lim t.value 2), .int .u64 (lim t.value 3), .int .i64 t.gas, .sl false 1 (t.hashes.map (AV.int .u64)), .sl false 1 (t.blobs.map AV.str)]
abbrev uC (n : Nat) : AV := .agg [.int .u64 (lim n 0), .int .u64 (lim n 1), .int .u64 (lim n 2), .int .u64 (lim n 3)]
theorem c_law7_heavy (a : Ask7) (h : a.ok) : Contract Try.prog 13 [a.av] (.bool (heavy7 a)) := by
  have hw : Contract Try.prog 26 [txC a.t] (.int .i64 (weightOf a.t)) := c_TxWeight a.t h.t
  have hs := h.s
  unfold reachBytes at hs
  unfold heavy7
  refine contract_of (C := cf 13 [1, 2] (fun _ => [])) (cf_ok _ _ _) (fn := Try.f13) Try.func13 (by kernel_rfl) rfl (by kernel_rfl) (by simp [cf]) (plain1 a.plain) (by decide) (noCell (by kernel_rfl)) ?_
  simp only [go_sem, seval, Ask7.av]
  refine ex_call (by exact hw) ?_
  have e : decide ((a.s.length : Int) > 5000) = decide (a.s.length > 5000) := decide_congr (by omega)
  cases hd : decide (weightOf a.t > 2000) with
  | true =>
    simp only [go_sem, seval, hd]
    refine finOne ?_ (fun _ e => by cases e)
    show resOf _ _ [.tmp 2] = _
    simp only [go_sem, seval]
  | false =>
    simp only [go_sem, seval, hd, e]
    refine finOne ?_ (fun _ e => by cases e)
    show resOf _ _ [.tmp 2] = _
    simp only [go_sem, seval]
theorem c_law7_num (e : Int) : Contract Try.prog 16 [.int .i64 e] (.int .i64 e) := by
  refine contract_of (C := cf 4 [0, 2] (fun _ => [])) (cf_ok _ _ _) (fn := Try.f16) Try.func16 (by kernel_rfl) rfl (by kernel_rfl) (by simp [cf]) (plain1 (.int _ e)) (by decide) (noCell (by kernel_rfl)) ?_
  simp only [go_sem, seval]
  refine finOne ?_ (fun _ e => by cases e)
  show resOf _ _ [.tmp 2] = _
  simp only [go_sem, seval]
/-! The contracts, with their values told whole. -/
theorem q_Tx (t : TxD) (h : t.ok) : Contract Try.prog 32 [txC t] (.bool (validTx t)) := c_ref7_Tx t h
theorem q_Check (t : TxD) (h : t.ok) : Contract Try.prog 44 [txC t] (.int .i64 (if validTx t = true then 0 else 1)) := c_tx_Check t h
theorem q_Bytes (t : TxD) (h : t.ok) : Contract Try.prog 28 [txC t] (.tup [.str (bytesTx t), .int .i64 (if validTx t = true then 0 else 1)]) := c_tx_Bytes t h
theorem q_refCost (t : TxD) (h : t.ok) (hv : validTx t = true) : Contract Try.prog 53 [txC t] (.tup [uC (costOf t), .bool true]) := by
  have V := valid_of hv
  have := c_ref7_Cost t h V.gas V.four
  rw [if_pos V.cost, decide_eq_true V.cost] at this
  exact this
theorem q_Take (s : List UInt8) (hs : s.length ≤ 4194304) (t : TxD) (h : takeTx s = some t) : Contract Try.prog 14 [.str s] (.tup [txC t, .int .i64 (0 : Int)]) := by
  have := c_tx_Take s hs
  rw [h] at this
  exact this
abbrev zeroC : AV := .agg [.int .i64 (0 : Int), .int .i64 (0 : Int), .int .u64 (0 : Int), .int .u64 (0 : Int), .int .u64 (0 : Int), .int .u64 (0 : Int), .int .u64 (0 : Int), .int .u64 (0 : Int), .int .u64 (0 : Int), .int .u64 (0 : Int), .int .u64 (0 : Int), .int .u64 (0 : Int), .int .u64 (0 : Int), .int .u64 (0 : Int), .int .u64 (0 : Int), .int .u64 (0 : Int), .int .u64 (0 : Int), .int .u64 (0 : Int), .int .i64 (0 : Int), .sl false 1 [], .sl false 1 []]
theorem zero_av : zeroTx.av = zeroC := by
  unfold zeroTx TxD.av TxD.cells ints strs
  simp only [lim_zero, List.map_nil]
theorem q_TakeN (s : List UInt8) (hs : s.length ≤ 4194304) (h : takeTx s = none) : Contract Try.prog 14 [.str s] (.tup [zeroC, .int .i64 (1 : Int)]) := by
  have := c_tx_Take s hs
  rw [h] at this
  unfold resTk at this
  rw [zero_av] at this
  exact this
theorem q_Eq (t : TxD) (h : t.ok) : Contract Try.prog 17 [txC t, txC t] (.bool true) := by
  have := c_EqTx t t h h
  rw [decide_eq_true rfl] at this
  exact this
def tx123 : TxD := plainTx 1 2 3
theorem tx123_ok : tx123.ok := plain_ok 1 2 3 (by omega) (by omega) (by decide)
theorem tx123_valid : validTx tx123 = true := by decide +kernel
theorem tx123_E : tx123.av = .agg [.int .i64 (1 : Int), .int .i64 (2 : Int), .int .u64 (3 : Int), .int .u64 (0 : Int), .int .u64 (0 : Int), .int .u64 (0 : Int), .int .u64 (6 : Int), .int .u64 (0 : Int), .int .u64 (0 : Int), .int .u64 (0 : Int), .int .u64 (3 : Int), .int .u64 (0 : Int), .int .u64 (0 : Int), .int .u64 (0 : Int), .int .u64 (0 : Int), .int .u64 (0 : Int), .int .u64 (0 : Int), .int .u64 (0 : Int), .int .i64 (1 : Int), .sl false 1 [.int .u64 (hashOf [98])], .sl false 1 [.str [98]]] := by
  have l3 := lims_small 3 (by decide)
  have l6 := lims_small (2 * 3) (by decide)
  unfold tx123 plainTx TxD.av TxD.cells ints strs
  simp only [l3.1, l3.2, l6.1, l6.2, lim_zero, List.map_cons, List.map_nil]
  rfl
theorem c_law7_wakes : Contract Try.prog 19 [] (.bool true) := by
  have hT : Contract Try.prog 35 [.int .i64 (1 : Int), .int .i64 (2 : Int), .int .u64 (3 : Int)] tx123.av := c_T 1 2 3 (by decide)
  have hB := c_tx_Bytes tx123 tx123_ok
  have hl := txRaw_len tx123_ok (valid_of tx123_valid)
  have hK := c_tx_Take (txRaw tx123) (by omega)
  rw [take_tx tx123_ok tx123_valid] at hK
  have hE := c_EqTx tx123 tx123 tx123_ok tx123_ok
  rw [decide_eq_true rfl] at hE
  unfold resTk at hK
  unfold bytesTx at hB
  rw [tx123_valid, if_pos rfl, if_pos rfl] at hB
  rw [tx123_E] at hT hB hE
  simp only at hK
  rw [tx123_E] at hK
  refine contract_of (C := cf 28 [0, 1, 2, 3, 4] (fun _ => [])) (cf_ok _ _ _) (fn := Try.f19) Try.func19 (by kernel_rfl) rfl (by kernel_rfl) (by simp [cf]) (fun _ h => by cases h) (by decide) (noCell (by kernel_rfl)) ?_
  simp only [go_sem, seval]
  refine ex_call (by exact hT) ?_
  simp only [go_sem, seval]
  refine ex_call (by exact hB) ?_
  simp only [go_sem, seval]
  refine ex_call (by exact hK) ?_
  simp only [go_sem, seval]
  refine ex_draw [] [] (.quiet 0 (.one 1 (.quiet 2 (.quiet 3 (.quiet 4 (.one 5 (.quiet 6 (.quiet 7 (.quiet 8 (.quiet 9 (.one 10 (.one 11 (.quiet 12 (.quiet 13 (.fin))))))))))))))) (by kernel_rfl) ?_
  simp only [go_sem, seval]
  refine ex_call (by exact c_law7_num _) ?_
  simp only [go_sem, seval]
  refine ex_call (by exact c_law7_num _) ?_
  simp only [go_sem, seval]
  refine ex_call (by exact hT) ?_
  simp only [go_sem, seval]
  refine ex_call (by exact hE) ?_
  simp only [go_sem, seval]
  refine finOne ?_ (fun _ e => by cases e)
  show resOf _ _ [.tmp 0] = _
  simp only [go_sem, seval]
end Go.Proofs.Ytdenldjlijoeoaa.VA
end
section
/- Functions that write over the rows of what they are given: what is kept. -/
namespace Go.Proofs.Ytdenldjlijoeoaa.VA
open Go.RowKit
set_option linter.unusedSimpArgs false
set_option linter.unusedVariables false

/-- What a cell may turn to: a value of its kind; a slice: the nil slice. -/
inductive Kin : Value → Value → Prop
  | same (v : Value) : Kin v v
  | int (k : IntKind) (a b : Int) : Kin (.int k a) (.int k b)
  | str (s t : ByteArray) : Kin (.string s) (.string t)
  | bool (a b : Bool) : Kin (.bool a) (.bool b)
  | nil (b : Option Addr) (n c : Nat) : Kin (.slice b n c) (.slice none 0 0)
/-- The cells of the blocks B are as they were, but for their kinds. -/
structure Sp (I : Imm) (B : Nat → Prop) (w : World) : Prop where
  cells : ∀ b o u, B b → I b o = some u → ∃ u', w.cell? ⟨b, o, none⟩ = some u' ∧ w.frozen? ⟨b, o, none⟩ = false ∧ Kin u u'
/-- A value as it stands now: its cells are of the kinds that they had. -/
def KinV (v v' : Value) : Prop := v.cells.size = v'.cells.size ∧ ∀ (j : Nat) u u', v.cells[j]? = some u → v'.cells[j]? = some u' → Kin u u'

/-- Rows of elements that have cells. -/
inductive Wide : AV → Prop
  | bool (b : Bool) : Wide (.bool b)
  | int (k : IntKind) (n : Int) : Wide (.int k n)
  | str (s : List UInt8) : Wide (.str s)
  | agg (cs : List AV) (h : ∀ c, c ∈ cs → Wide c) : Wide (.agg cs)
  | sl (fr : Bool) (sz : Nat) (es : List AV) (h0 : 0 < sz) (h : ∀ c, c ∈ es → Wide c) : Wide (.sl fr sz es)
theorem cells_eq {M N : Nat → Prop} {I : Imm} {e : AV} {v v' : Value} (h : AR M I e v) (h' : AR N I e v') (hc : v.cells = v'.cells) : v = v' := by
  rcases h.kind with ⟨cs, vs, rfl, rfl, _⟩ | ⟨h1, h2⟩
  · cases h' with
    | agg _ vs' => rw [show vs = vs' from hc]
  · rcases h'.kind with ⟨cs, vs', rfl, rfl, _⟩ | ⟨h1', _⟩
    · cases h; cases h1
    · rw [cells_one h1, cells_one h1'] at hc
      simpa using hc
/-- The least set of blocks that a value leans on. -/
theorem AR.least {I : Imm} {x : AV} {v : Value} (h : AR (fun _ => True) I x v) : Wide x → ∀ N : Nat → Prop, (∀ b, (∀ M, AR M I x v → M b) → (∃ o u, I b o = some u) → N b) → AR N I x v := by
  induction h with
  | bool b => exact fun _ _ _ => .bool b
  | int k n => exact fun _ _ _ => .int k n
  | str s => exact fun _ _ _ => .str s
  | fn f => exact fun hw => by cases hw
  | nilf => exact fun hw => by cases hw
  | agg cs vs hl h1 hc ih =>
    intro hw N hN
    cases hw with
    | agg _ hw =>
      refine .agg cs vs hl h1 fun j c u hj hu => ih j c u hj hu (hw c (List.mem_of_getElem? hj)) N fun b hb => hN b fun M hM => hb M ?_
      cases hM with
      | agg _ _ _ _ hM => exact hM j c u hj hu
  | slnil fr sz base cap => exact fun _ _ _ => .slnil fr sz base cap
  | sl fr sz es b o n cap hn hc vs hv hz hI _ ih =>
    intro hw N hN
    cases hw with
    | sl _ _ _ h0 hw =>
      cases es with
      | nil => subst hn; exact .slnil fr sz _ _
      | cons e0 es =>
        have hcell : ∃ o u, I b o = some u := by
          have hs := hz 0 (by simp)
          exact ⟨_, _, hI 0 0 _ (by simp) (Array.getElem?_eq_getElem (by rw [hs]; exact h0))⟩
        have inv : ∀ M, AR M I (.sl fr sz (e0 :: es)) (.slice (some ⟨b, o, none⟩) n cap) → (fr = true → M b) ∧ ∀ (i : Nat) e, (e0 :: es)[i]? = some e → AR M I e (vs i) := by
          intro M hM
          cases hM with
          | sl _ _ _ _ _ _ _ _ _ vs' hv' hz' hI' hM' =>
            refine ⟨hM', fun i e he => ?_⟩
            have hi := (List.getElem?_eq_some_iff.1 he).1
            have e1 : vs i = vs' i := by
              refine cells_eq (hv i e he) (hv' i e he) (Array.ext (by rw [hz i hi, hz' i hi]) fun j h1 h2 => ?_)
              have q1 := hI i j _ hi (Array.getElem?_eq_getElem h1)
              have q2 := hI' i j _ hi (Array.getElem?_eq_getElem h2)
              rw [q1] at q2
              exact Option.some.inj q2
            rw [e1]; exact hv' i e he
        refine .sl fr sz _ b o n cap hn hc vs (fun i e he => ih i e he (hw e (List.mem_of_getElem? he)) N fun c hb => hN c fun M hM => hb M ((inv M hM).2 i e he)) hz hI fun e => hN b (fun M hM => (inv M hM).1 e) hcell
  | ext => exact fun hw => by cases hw
  | hd => exact fun hw => by cases hw

/-- A row of the value, as it stands now. -/
theorem row_now {I : Imm} {B : Nat → Prop} {sz : Nat} {es : List AV} {u u' : Value} (h : AR B I (.sl true sz es) u) (hk : Kin u u') : ∃ base n cap, u' = .slice base n cap ∧ (n = 0 ∨ (n = es.length ∧ ∃ b o, base = some ⟨b, o, none⟩ ∧ B b ∧ ∃ vs : Nat → Value,
    (∀ (i : Nat) e, es[i]? = some e → AR B I e (vs i)) ∧ (∀ i, i < es.length → (vs i).cells.size = sz) ∧ ∀ (i j : Nat) c, i < es.length → (vs i).cells[j]? = some c → I b (o + i * sz + j) = some c)) := by
  cases h with
  | slnil fr sz base cap =>
    cases hk with
    | same => exact ⟨_, _, _, rfl, .inl rfl⟩
    | nil => exact ⟨_, _, _, rfl, .inl rfl⟩
  | sl fr sz es b o n cap hn hc vs hv hz hI hM =>
    cases hk with
    | same => exact ⟨_, _, _, rfl, .inr ⟨hn, b, o, rfl, hM rfl, vs, hv, hz, hI⟩⟩
    | nil => exact ⟨_, _, _, rfl, .inl rfl⟩

/-- Between two stores. -/
structure SpG (I : Imm) (B : Nat → Prop) (w0 w : World) : Prop where
  fr : Fr w0 w B
  sp : Sp I B w
theorem SpG.grow {I : Imm} {B : Nat → Prop} {w0 w w' : World} (h : SpG I B w0 w) (hw : Fr w w' fun _ => False) : SpG I B w0 w' where
  fr := fr_trans h.fr hw.os hw.tape hw.output hw.size (fun k hk _ => hw.block k (Nat.lt_of_lt_of_le hk h.fr.size) id) hw.new
  sp := ⟨fun b o u hb hu => by
    obtain ⟨u', h1, h2, h3⟩ := h.sp.cells b o u hb hu
    have hlt : b < w.heap.size := World.block_lt_of_cell? w _ h1
    have e := hw.block b hlt id
    exact ⟨u', by rw [World.cell?_of_block e]; exact h1, by rw [World.frozen?_of_block e]; exact h2, h3⟩⟩
theorem SpG.called {I : Imm} {B : Nat → Prop} {w0 w w' : World} (h : SpG I B w0 w) (hw : SpG I B w w') : SpG I B w0 w' where
  fr := fr_trans h.fr hw.fr.os hw.fr.tape hw.fr.output hw.fr.size (fun k hk hn => hw.fr.block k (Nat.lt_of_lt_of_le hk h.fr.size) hn) hw.fr.new
  sp := hw.sp
/-- Cells of a block of B are written over, by values of their kinds. -/
theorem SpG.write {I : Imm} {B : Nat → Prop} {w0 w : World} (h : SpG I B w0 w) {b off : Nat} {vals : List Value} (hb : B b) (hc : ∀ j, j < vals.length → (w.cell? ⟨b, off + j, none⟩).isSome = true)
    (hk : ∀ (j : Nat) u v, I b (off + j) = some u → vals[j]? = some v → Kin u v) : SpG I B w0 (w.setCells b off vals) := by
  have hW := wr_setCells w b off vals hc
  refine ⟨fr_trans h.fr hW.os hW.tape hW.output (Nat.le_of_eq hW.size.symm) (fun k hk hn => hW.block k fun e => by subst e; exact hn hb) fun k o u hu => .inl ⟨hW.dom k o u hu, hW.frz _⟩, ⟨fun b' o u hb' hu => ?_⟩⟩
  obtain ⟨u', h1, h2, h3⟩ := h.sp.cells b' o u hb' hu
  rw [hW.frz]
  by_cases e : b' = b
  · subst e
    by_cases hin : off ≤ o ∧ o < off + vals.length
    · have e1 := hW.cin (o - off) (by omega)
      rw [show off + (o - off) = o by omega] at e1
      have hlt : o - off < vals.length := by omega
      rw [e1, List.getElem?_eq_getElem hlt]
      exact ⟨_, rfl, h2, hk (o - off) u _ (by rw [show off + (o - off) = o by omega]; exact hu) (List.getElem?_eq_getElem hlt)⟩
    · rw [hW.cout o (by omega)]; exact ⟨u', h1, h2, h3⟩
  · rw [hW.cell_ne e]; exact ⟨u', h1, h2, h3⟩
/-- What a function that writes over its argument must do, at any time, for a Spoil. -/
theorem spoil_of {P : Program} {f : FuncId} {x : AV} (hw : Wide x) (he : ∃ fn c, P.funcs[f]? = some fn ∧ (fn.name == "runtime.NumGoroutine") = false ∧ fn.body = some c)
    (h : ∀ (I : Imm) (B : Nat → Prop) (w : World) (v : Value), AR B I x v → Sp I B w → (∀ b, B b → b < w.heap.size) → Calls P f #[v] w fun e w' => e = .returned (.tuple #[]) ∧ SpG I B w w') : Spoil P f x where
  enters := he
  calls I w v hI hx hz := by
    have hB := hx.least hw (fun b => (∀ M, AR M I x v → M b) ∧ ∃ o u, I b o = some u) fun b h1 h2 => ⟨h1, h2⟩
    refine (h I _ w v hB ⟨fun b o u hb hu => ⟨u, hI b o u hu, hz b hb.1 o u hu, .same u⟩⟩ fun b hb => ?_).mono fun e w' hq => ⟨hq.1, hq.2.fr⟩
    obtain ⟨o, u, hu⟩ := hb.2
    exact World.block_lt_of_cell? w _ (hI b o u hu)
end Go.Proofs.Ytdenldjlijoeoaa.VA
end
section
/- tarnlaw0.Tx writes over a transaction's rows, and over nothing else. -/
namespace Go.Proofs.Ytdenldjlijoeoaa.VA
open Go.RowKit
set_option linter.unusedSimpArgs false
set_option linter.unusedVariables false

/-- Row by row: what is told of a slice of cells of one kind, in blocks that may be written. -/
def RowAt (I : Imm) (B : Nat → Prop) (ok : Value → Prop) (base : Option Addr) (n : Nat) : Prop :=
  n = 0 ∨ ∃ b o, base = some ⟨b, o, none⟩ ∧ B b ∧ ∀ i, i < n → ∃ u, I b (o + i) = some u ∧ ok u
set_option maxHeartbeats 8000000 in
set_option maxRecDepth 1000000 in
theorem walk_Tx (I : Imm) (B : Nat → Prop) (w : World) (c0 c1 c2 c3 c4 c5 c6 c7 c8 c9 c10 c11 c12 c13 c14 c15 c16 c17 c18 : Value) (hb : Option Addr) (hn hc : Nat) (bb : Option Addr) (bn bc : Nat)
    (hm : hn ≤ 9223372036854775807) (bm : bn ≤ 9223372036854775807)
    (h1 : RowAt I B (fun u => ∃ n, u = .int .u64 n) hb hn) (h2 : RowAt I B (fun u => ∃ s, u = .string s) bb bn) (hs : Sp I B w) (hB : ∀ b, B b → b < w.heap.size) :
    Calls Try.prog 18 #[.agg #[c0, c1, c2, c3, c4, c5, c6, c7, c8, c9, c10, c11, c12, c13, c14, c15, c16, c17, c18, .slice hb hn hc, .slice bb bn bc]] w fun e w' => e = .returned (.tuple #[]) ∧ SpG I B w w' := by
  obtain ⟨W, hW⟩ : ∃ W : World, W = w.alloc (.cells #[c0, c1, c2, c3, c4, c5, c6, c7, c8, c9, c10, c11, c12, c13, c14, c15, c16, c17, c18, .slice hb hn hc, .slice bb bn bc] 49) := ⟨_, rfl⟩
  have hg0 : SpG I B w W := by
    rw [hW]
    exact SpG.grow ⟨fr_refl _ _, hs⟩ (fr_alloc w _ fun j u _ => World.frozen?_alloc_new w _ _ j)
  have h19 : W.cell? ⟨w.heap.size, 19, none⟩ = some (.slice hb hn hc) := by rw [hW, World.cell?_alloc_new]; rfl
  have h20 : W.cell? ⟨w.heap.size, 20, none⟩ = some (.slice bb bn bc) := by rw [hW, World.cell?_alloc_new]; rfl
  go_enter Try.func18, Try.ntmps18
  go_wp2
  rw [← hW]
  have hBk : ∀ b, B b → b ≠ w.heap.size := fun b hb e => by
    have := hB b hb
    omega
  clear hW hs hB
  obtain ⟨k0, hk0⟩ : ∃ k0, k0 = w.heap.size := ⟨_, rfl⟩
  rw [← hk0] at h19 h20 hBk ⊢
  clear hk0
  refine wp_loop_ghost (fun n a w' => ∃ (i : Nat) (x4 x5 x6 x7 x8 x9 x10 x11 x12 x13 x14 : Value), (i ≤ hn ∧ n = hn - i) ∧ a = { tmps := #[.agg #[c0, c1, c2, c3, c4, c5, c6, c7, c8, c9, c10, c11, c12, c13, c14, c15, c16, c17, c18, .slice hb hn hc, .slice bb bn bc], .pointer (some ⟨k0, 0, none⟩), .int .i64 i, undef, x4, x5, x6, x7, x8, x9, x10, x11, x12, x13, x14, undef, undef, undef, undef, undef, undef, undef, undef, undef, undef, undef], defers := [] } ∧
    SpG I B w w' ∧ w'.cell? ⟨k0, 19, none⟩ = some (.slice hb hn hc) ∧ w'.cell? ⟨k0, 20, none⟩ = some (.slice bb bn bc)) hn ⟨0, _, _, _, _, _, _, _, _, _, _, _, ⟨Nat.zero_le _, rfl⟩, rfl, hg0, h19, h20⟩ ?_
  clear hg0 h19 h20
  rintro n a w' ⟨i, x4, x5, x6, x7, x8, x9, x10, x11, x12, x13, x14, ⟨hi, hni⟩, rfl, hg, h19, h20⟩
  have A : Aside (n = hn - i) := hni
  clear hni
  rcases Nat.lt_or_ge i hn with hlt | hge
  · rcases h1 with h1 | ⟨b, o, rfl, hBb, hrow⟩
    · omega
    obtain ⟨u, hu, nn, rfl⟩ := hrow i hlt
    obtain ⟨u', q1, q2, q3⟩ := hg.sp.cells b (o + i) _ hBb hu
    have Q : Aside (I b (o + i) = some (.int .u64 nn) ∧ SpG I B w w' ∧ B b) := ⟨hu, hg, hBb⟩
    clear hu hg hrow hBb
    go_wp2
    obtain ⟨hu, hg, hBb⟩ := Q.out
    have hni := A.out
    have hne : k0 ≠ b := fun e => hBk b hBb e.symm
    refine ⟨hn - (i + 1), by omega, i + 1, _, _, _, _, _, _, _, _, _, _, _, ⟨by omega, rfl⟩, rfl, ?_, ?_, ?_⟩
    · refine hg.write (off := o + i) (vals := [.int .u64 99]) hBb (fun j hj => ?_) (fun j u v hu' hv => ?_)
      · obtain rfl : j = 0 := by simpa using hj
        rw [Nat.add_zero, q1]; rfl
      · obtain ⟨rfl, rfl⟩ := lget_one hv
        rw [Nat.add_zero, hu] at hu'
        cases hu'
        exact .int _ _ _
    · exact (World.cell?_setCells_out b [_] (o + i) w' ⟨k0, 19, none⟩ (fun e _ => absurd e hne)).trans h19
    · exact (World.cell?_setCells_out b [_] (o + i) w' ⟨k0, 20, none⟩ (fun e _ => absurd e hne)).trans h20
  · go_wp2
    clear A hge hi h19
    refine wp_loop_ghost (fun n a w' => ∃ (i : Nat) (x2 x4 x5 x6 x7 x8 x9 x10 x11 x12 x13 x14 x15 x16 x17 x18 x19 x20 x21 x22 x23 x24 x25 : Value), (i ≤ bn ∧ n = bn - i) ∧ a = { tmps := #[.agg #[c0, c1, c2, c3, c4, c5, c6, c7, c8, c9, c10, c11, c12, c13, c14, c15, c16, c17, c18, .slice hb hn hc, .slice bb bn bc], .pointer (some ⟨k0, 0, none⟩), x2, .int .i64 i, x4, x5, x6, x7, x8, x9, x10, x11, x12, x13, x14, x15, x16, x17, x18, x19, x20, x21, x22, x23, x24, x25], defers := [] } ∧
      SpG I B w w' ∧ w'.cell? ⟨k0, 20, none⟩ = some (.slice bb bn bc)) bn ⟨0, _, _, _, _, _, _, _, _, _, _, _, _, _, _, _, _, _, _, _, _, _, _, _, ⟨Nat.zero_le _, rfl⟩, rfl, hg, h20⟩ ?_
    clear hg h20
    rintro n a w' ⟨i, x2, x4, x5, x6, x7, x8, x9, x10, x11, x12, x13, x14, x15, x16, x17, x18, x19, x20, x21, x22, x23, x24, x25, ⟨hi, hni⟩, rfl, hg, h20⟩
    have A : Aside (n = bn - i) := hni
    clear hni
    rcases Nat.lt_or_ge i bn with hlt | hge
    · rcases h2 with h2 | ⟨b, o, rfl, hBb, hrow⟩
      · omega
      obtain ⟨u, hu, nn, rfl⟩ := hrow i hlt
      obtain ⟨u', q1, q2, q3⟩ := hg.sp.cells b (o + i) _ hBb hu
      have Q : Aside (I b (o + i) = some (.string nn) ∧ SpG I B w w' ∧ B b) := ⟨hu, hg, hBb⟩
      clear hu hg hrow hBb
      go_wp2
      obtain ⟨hu, hg, hBb⟩ := Q.out
      have hni := A.out
      have hne : k0 ≠ b := fun e => hBk b hBb e.symm
      refine ⟨bn - (i + 1), by omega, i + 1, _, _, _, _, _, _, _, _, _, _, _, _, _, _, _, _, _, _, _, _, _, _, _, ⟨by omega, rfl⟩, rfl, ?_, ?_⟩
      · refine hg.write (off := o + i) (vals := [.string ⟨#[63]⟩]) hBb (fun j hj => ?_) (fun j u v hu' hv => ?_)
        · obtain rfl : j = 0 := by simpa using hj
          rw [Nat.add_zero, q1]; rfl
        · obtain ⟨rfl, rfl⟩ := lget_one hv
          rw [Nat.add_zero, hu] at hu'
          cases hu'
          exact .str _ _
      · exact (World.cell?_setCells_out b [_] (o + i) w' ⟨k0, 20, none⟩ (fun e _ => absurd e hne)).trans h20
    · go_wp2
      go_end0
      exact ⟨rfl, hg⟩
theorem arr21 (a : Array Value) (h : a.size = 21) : ∃ c0 c1 c2 c3 c4 c5 c6 c7 c8 c9 c10 c11 c12 c13 c14 c15 c16 c17 c18 c19 c20, a = #[c0, c1, c2, c3, c4, c5, c6, c7, c8, c9, c10, c11, c12, c13, c14, c15, c16, c17, c18, c19, c20] := by
  rcases a with ⟨l⟩
  match l, h with
  | [c0, c1, c2, c3, c4, c5, c6, c7, c8, c9, c10, c11, c12, c13, c14, c15, c16, c17, c18, c19, c20], _ => exact ⟨c0, c1, c2, c3, c4, c5, c6, c7, c8, c9, c10, c11, c12, c13, c14, c15, c16, c17, c18, c19, c20, rfl⟩
theorem KinV.agg {vs : Array Value} {v' : Value} (h : KinV (.agg vs) v') (hs : 2 ≤ vs.size) : ∃ vs', v' = .agg vs' ∧ vs'.size = vs.size ∧ ∀ (j : Nat) u u', vs[j]? = some u → vs'[j]? = some u' → Kin u u' := by
  obtain ⟨h1, h2⟩ := h
  have h1 : vs.size = v'.cells.size := h1
  cases v' with
  | agg vs' => exact ⟨vs', rfl, h1.symm, h2⟩
  | tuple vs' => simp [Value.cells] at h1; omega
  | _ => simp [Value.cells] at h1; omega
theorem row_at {I : Imm} {B : Nat → Prop} {α : Type} {f : α → AV} {l : List α} {ok : Value → Prop} {u u' : Value} (h : AR B I (.sl true 1 (l.map f)) u) (hk : Kin u u') (hf : ∀ x v, AR B I (f x) v → v.oneCell' = true ∧ ok v) :
    ∃ base n cap, u' = .slice base n cap ∧ n ≤ l.length ∧ RowAt I B ok base n := by
  obtain ⟨base, n, cap, rfl, hr⟩ := row_now h hk
  refine ⟨base, n, cap, rfl, ?_⟩
  rcases hr with rfl | ⟨hn, b, o, rfl, hb, vs, hv, hz, hI⟩
  · exact ⟨Nat.zero_le _, .inl rfl⟩
  · rw [List.length_map] at hn
    refine ⟨by omega, .inr ⟨b, o, rfl, hb, fun i hi => ?_⟩⟩
    have hi' : i < (l.map f).length := by rw [List.length_map]; omega
    obtain ⟨x, ex⟩ : ∃ x, l[i]? = some x := ⟨_, List.getElem?_eq_getElem (by omega)⟩
    obtain ⟨q1, q2⟩ := hf x _ (hv i (f x) (by rw [List.getElem?_map, ex]; rfl))
    refine ⟨vs i, ?_, q2⟩
    have := hI i 0 (vs i) hi' (by rw [cells_one q1]; rfl)
    rw [Nat.mul_one, Nat.add_zero] at this
    exact this
/-- tarnlaw0.Tx, at a transaction as it stands now. -/
theorem calls_Tx {I : Imm} {B : Nat → Prop} {w : World} {cs : List AV} {hs : List Int} {bs : List (List UInt8)} {v v' : Value} (hx : AR B I (.agg cs) v) (hlen : cs.length = 21) (h19 : cs[19]? = some (.sl true 1 (hs.map (AV.int .u64)))) (h20 : cs[20]? = some (.sl true 1 (bs.map AV.str)))
    (hm : hs.length ≤ 9223372036854775807) (bm : bs.length ≤ 9223372036854775807) (hk : KinV v v') (hsp : Sp I B w) (hB : ∀ b, B b → b < w.heap.size) :
    Calls Try.prog 18 #[v'] w fun e w' => e = .returned (.tuple #[]) ∧ SpG I B w w' := by
  cases hx with
  | agg _ vs hl h1 hcs =>
    obtain ⟨vs', rfl, hs', hkk⟩ := hk.agg (by omega)
    obtain ⟨c0, c1, c2, c3, c4, c5, c6, c7, c8, c9, c10, c11, c12, c13, c14, c15, c16, c17, c18, c19, c20, rfl⟩ := arr21 vs' (by omega)
    have e19 := hcs 19 _ _ h19 (Array.getElem?_eq_getElem (by omega))
    have e20 := hcs 20 _ _ h20 (Array.getElem?_eq_getElem (by omega))
    obtain ⟨hb, hn, hc, rfl, n1, r1⟩ := row_at (ok := fun u => ∃ n, u = .int .u64 n) e19 (hkk 19 _ _ (Array.getElem?_eq_getElem (by omega)) rfl) (fun x v h => by cases h; exact ⟨rfl, _, rfl⟩)
    obtain ⟨bb, bn, bc, rfl, n2, r2⟩ := row_at (ok := fun u => ∃ s, u = .string s) e20 (hkk 20 _ _ (Array.getElem?_eq_getElem (by omega)) rfl) (fun x v h => by cases h; exact ⟨rfl, _, rfl⟩)
    exact walk_Tx I B w _ _ _ _ _ _ _ _ _ _ _ _ _ _ _ _ _ _ _ hb hn hc bb bn bc (by omega) (by omega) r1 r2 hsp hB
end Go.Proofs.Ytdenldjlijoeoaa.VA
end
section
/- tarnlaw0.Txs, Limbo: they write over rows of transactions, and over nothing else. -/
namespace Go.Proofs.Ytdenldjlijoeoaa.VA
open Go.RowKit
set_option linter.unusedSimpArgs false
set_option linter.unusedVariables false

theorem dull_wide (t : TxD) : Wide t.dull := .agg _ fun c hc => by
  simp only [List.mem_cons, List.not_mem_nil, or_false] at hc
  rcases hc with rfl | rfl | rfl | rfl | rfl | rfl | rfl | rfl | rfl | rfl | rfl | rfl | rfl | rfl | rfl | rfl | rfl | rfl | rfl | rfl | rfl <;> first | exact .int _ _ | exact .sl _ _ _ (by decide) (fun c hc => by obtain ⟨x, _, rfl⟩ := List.mem_map.1 hc; first | exact .int _ _ | exact .str _)
theorem kinV_refl (v : Value) : KinV v v := ⟨rfl, fun j u u' h1 h2 => by rw [h1] at h2; cases h2; exact .same _⟩
/-- What an element's cells may turn to. -/
inductive KZ : AV → Value → Prop
  | int (k : IntKind) (n m : Int) : KZ (.int k n) (.int k m)
  | str (s : List UInt8) (t : ByteArray) : KZ (.str s) (.string t)
  | bool (a b : Bool) : KZ (.bool a) (.bool b)
  | sl (fr : Bool) (sz : Nat) (es : List AV) : KZ (.sl fr sz es) (.slice none 0 0)
theorem KZ.kin {M : Nat → Prop} {I : Imm} {c : AV} {u z : Value} (h : KZ c z) (ha : AR M I c u) : Kin u z := by
  cases h with
  | int k n m => cases ha; exact .int _ _ _
  | str s t => cases ha; exact .str _ _
  | bool a b => cases ha; exact .bool _ _
  | sl fr sz es => cases ha <;> exact .nil _ _ _
theorem kz_nil : ∀ (j : Nat) c z, ([] : List AV)[j]? = some c → ([] : List Value)[j]? = some z → KZ c z := fun j c z h => by cases h
theorem kz_cons {x : AV} {z : Value} {xs : List AV} {zs : List Value} (h : KZ x z) (hr : ∀ (j : Nat) c z, xs[j]? = some c → zs[j]? = some z → KZ c z) : ∀ (j : Nat) c u, (x :: xs)[j]? = some c → (z :: zs)[j]? = some u → KZ c u := fun j c u hc hu => by
  cases j with
  | zero =>
    simp only [List.getElem?_cons_zero, Option.some.injEq] at hc hu
    subst hc hu; exact h
  | succ j => exact hr j c u (by simpa using hc) (by simpa using hu)
/-- The cells of an element, as they stand now. -/
theorem elem_now {I : Imm} {B : Nat → Prop} {w0 w : World} (h : SpG I B w0 w) {b off sz : Nat} {v : Value} (hb : B b) (hs : v.cells.size = sz) (hI : ∀ (j : Nat) c, v.cells[j]? = some c → I b (off + j) = some c) :
    ∃ us : List Value, us.length = sz ∧ (∀ j, j < sz → w.cell? ⟨b, off + j, none⟩ = us[j]? ∧ w.frozen? ⟨b, off + j, none⟩ = false) ∧ ∀ (j : Nat) u u', v.cells[j]? = some u → us[j]? = some u' → Kin u u' := by
  refine ⟨(List.range sz).map fun j => (w.cell? ⟨b, off + j, none⟩).getD undef, by simp, fun j hj => ?_, fun j u u' hu hu' => ?_⟩
  · obtain ⟨u', h1, h2, _⟩ := h.sp.cells b (off + j) _ hb (hI j _ (Array.getElem?_eq_getElem (by omega)))
    refine ⟨?_, h2⟩
    rw [List.getElem?_map, List.getElem?_range hj, h1]
    simp [h1]
  · have hj : j < sz := by rw [← hs]; exact (Array.getElem?_eq_some_iff.1 hu).1
    obtain ⟨u2, h1, _, h3⟩ := h.sp.cells b (off + j) u hb (hI j u hu)
    rw [List.getElem?_map, List.getElem?_range hj] at hu'
    simp only [Option.map_some, Option.some.injEq, h1, Option.getD_some] at hu'
    subst hu'; exact h3
/-- An element is written over. -/
theorem elem_write {I : Imm} {B : Nat → Prop} {w0 w : World} (h : SpG I B w0 w) {b off sz : Nat} {e : AV} {v z : Value} (hb : B b) (hv : AR B I e v) (hs : v.cells.size = sz) (hI : ∀ (j : Nat) c, v.cells[j]? = some c → I b (off + j) = some c)
    (hz : z.cells.size = sz) (hk : ∀ (j : Nat) c u, e.flat[j]? = some c → z.cells.toList[j]? = some u → KZ c u) : SpG I B w0 (w.setCells b off z.cells.toList) := by
  refine h.write hb (fun j hj => ?_) fun j u u' hu hu' => ?_
  · have hj : j < v.cells.size := by rw [hs, ← hz]; simpa using hj
    obtain ⟨u', h1, _, _⟩ := h.sp.cells b (off + j) _ hb (hI j _ (Array.getElem?_eq_getElem hj))
    rw [h1]; rfl
  · have hj : j < v.cells.size := by
      have := (List.getElem?_eq_some_iff.1 hu').1
      rw [hs, ← hz]; simpa using this
    have h1 := hI j _ (Array.getElem?_eq_getElem hj)
    rw [hu] at h1
    cases h1
    have hf : j < e.flat.length := by rw [hv.flen]; exact hj
    exact (hk j _ u' (List.getElem?_eq_getElem hf) hu').kin (hv.fcell j _ _ (List.getElem?_eq_getElem hf) (Array.getElem?_eq_getElem hj))

def zeroT : Value := .agg #[.int .i64 (-9), .int .i64 0, .int .u64 0, .int .u64 0, .int .u64 0, .int .u64 0, .int .u64 0, .int .u64 0, .int .u64 0, .int .u64 0, .int .u64 0, .int .u64 0, .int .u64 0, .int .u64 0, .int .u64 0, .int .u64 0, .int .u64 0, .int .u64 0, .int .i64 0, .slice none 0 0, .slice none 0 0]
theorem kz_tx (t : TxD) : ∀ (j : Nat) c u, t.dull.flat[j]? = some c → zeroT.cells.toList[j]? = some u → KZ c u := by
  refine kz_cons (.int _ _ _) (kz_cons (.int _ _ _) ?_)
  repeat' (first | exact kz_nil | exact KZ.int _ _ _ | exact KZ.sl _ _ _ | refine kz_cons ?_ ?_)
set_option maxHeartbeats 8000000 in
set_option maxRecDepth 1000000 in
theorem dulls_wide (l : List TxD) : Wide (.sl true 21 (l.map TxD.dull)) := .sl _ _ _ (by decide) fun c hc => by
  obtain ⟨t, _, rfl⟩ := List.mem_map.1 hc
  exact dull_wide t
end Go.Proofs.Ytdenldjlijoeoaa.VA
end
section
/- Laws that write over what they were told: helps. -/
namespace Go.Proofs.Ytdenldjlijoeoaa.VA
set_option linter.unusedVariables false

noncomputable def cfs (n : Nat) (live : List Nat) (spc : FuncId → Bool) : Cfg := { P := Try.prog, ti := ti, n := n, live := live, ownp := fun _ => [], spc := spc }
theorem cfs_ok (n : Nat) (live : List Nat) (spc : FuncId → Bool) : CfgOk (cfs n live spc) := ⟨(cf_ok 0 [] (fun _ => [])).mixed, (cf_ok 0 [] (fun _ => [])).fit⟩
/-! What is held. -/
theorem hok_nil (ks : List Nat) : ∀ k (x : AV), (k, x) ∈ ([] : List (Nat × AV)) → ks.contains k = true → x.plainA := fun k x h => by cases h
theorem hok_cons {ks : List Nat} {j : Nat} {y : AV} {r : List (Nat × AV)} (h : ks.contains j = true → y.plainA) (hr : ∀ k (x : AV), (k, x) ∈ r → ks.contains k = true → x.plainA) : ∀ k (x : AV), (k, x) ∈ (j, y) :: r → ks.contains k = true → x.plainA := fun k x hx => by
  rcases List.mem_cons.1 hx with e | e
  · cases e; exact h
  · exact hr k x e
theorem vok_nil (vs : List Nat) : ∀ k (cs : List AV), (k, cs) ∈ ([] : List (Nat × List AV)) → vs.contains k = true → ∀ c, c ∈ cs → c.plainEs := fun k x h => by cases h
theorem vok_cons {vs : List Nat} {j : Nat} {ds : List AV} {r : List (Nat × List AV)} (h : vs.contains j = true → ∀ c, c ∈ ds → c.plainEs) (hr : ∀ k (cs : List AV), (k, cs) ∈ r → vs.contains k = true → ∀ c, c ∈ cs → c.plainEs) :
    ∀ k (cs : List AV), (k, cs) ∈ (j, ds) :: r → vs.contains k = true → ∀ c, c ∈ cs → c.plainEs := fun k x hx => by
  rcases List.mem_cons.1 hx with e | e
  · cases e; exact h
  · exact hr k x e
theorem esok_nil : ∀ c, c ∈ ([] : List AV) → c.plainEs := fun c hc => by cases hc
theorem esok_cons {x : AV} {xs : List AV} (h : x.plainEs) (hx : ∀ c, c ∈ xs → c.plainEs) : ∀ c, c ∈ x :: xs → c.plainEs := fun c hc => by
  rcases List.mem_cons.1 hc with rfl | hc
  · exact h
  · exact hx c hc
/-! What was held. -/
theorem hel_nil (J : Imm) : ∀ k (x : AV), (k, x) ∈ ([] : List (Nat × AV)) → x.heldOfA J := fun k x h => by cases h
theorem hel_cons {J : Imm} {j : Nat} {y : AV} {r : List (Nat × AV)} (h : y.heldOfA J) (hr : ∀ k (x : AV), (k, x) ∈ r → x.heldOfA J) : ∀ k (x : AV), (k, x) ∈ (j, y) :: r → x.heldOfA J := fun k x hx => by
  rcases List.mem_cons.1 hx with e | e
  · cases e; exact h
  · exact hr k x e
theorem vel_nil (J : Imm) : ∀ k (cs : List AV), (k, cs) ∈ ([] : List (Nat × List AV)) → ∀ c, c ∈ cs → c.heldOf J := fun k x h => by cases h
theorem vel_cons {J : Imm} {j : Nat} {ds : List AV} {r : List (Nat × List AV)} (h : ∀ c, c ∈ ds → c.heldOf J) (hr : ∀ k (cs : List AV), (k, cs) ∈ r → ∀ c, c ∈ cs → c.heldOf J) : ∀ k (cs : List AV), (k, cs) ∈ (j, ds) :: r → ∀ c, c ∈ cs → c.heldOf J := fun k x hx => by
  rcases List.mem_cons.1 hx with e | e
  · cases e; exact h
  · exact hr k x e
theorem eel_nil (J : Imm) : ∀ c, c ∈ ([] : List AV) → c.heldOf J := fun c hc => by cases hc
theorem eel_cons {J : Imm} {x : AV} {xs : List AV} (h : x.heldOf J) (hx : ∀ c, c ∈ xs → c.heldOf J) : ∀ c, c ∈ x :: xs → c.heldOf J := fun c hc => by
  rcases List.mem_cons.1 hc with rfl | hc
  · exact h
  · exact hx c hc
theorem iso_agg {J : Imm} {n : Nat} : ∀ {xs ys : List AV}, xs.length = ys.length → (∀ (j : Nat) x y, xs[j]? = some x → ys[j]? = some y → Iso J n x y) → Iso J n (.agg xs) (.agg ys) := fun hl h => .agg _ _ hl h
theorem iso_nil (J : Imm) (n : Nat) : ∀ (j : Nat) x y, ([] : List AV)[j]? = some x → ([] : List AV)[j]? = some y → Iso J n x y := fun j x y h => by cases h
theorem iso_cons {J : Imm} {n : Nat} {x y : AV} {xs ys : List AV} (h : Iso J n x y) (hr : ∀ (j : Nat) x y, xs[j]? = some x → ys[j]? = some y → Iso J n x y) : ∀ (j : Nat) u v, (x :: xs)[j]? = some u → (y :: ys)[j]? = some v → Iso J n u v := fun j u v hu hv => by
  cases j with
  | zero =>
    simp only [List.getElem?_cons_zero, Option.some.injEq] at hu hv
    subst hu hv; exact h
  | succ j => exact hr j u v (by simpa using hu) (by simpa using hv)
end Go.Proofs.Ytdenldjlijoeoaa.VA
end
section
/- TxTakes: the law. -/
namespace Go.Proofs.Ytdenldjlijoeoaa.VA
set_option maxRecDepth 10000
set_option linter.unusedSimpArgs false
set_option linter.unusedVariables false
set_option maxHeartbeats 16000000

theorem spoil_Tx (t : TxD) (h : t.ok) : Spoil Try.prog 18 t.dull := by
  have h1 := h.hashes
  have h2 := h.blobs
  unfold reachBytes at h1 h2
  exact spoil_of (dull_wide t) ⟨_, _, Try.func18, by kernel_rfl, rfl⟩ fun I B w v hx hs hB => calls_Tx (hs := t.hashes) (bs := t.blobs) hx rfl rfl rfl (by omega) (by omega) (kinV_refl v) hs hB
theorem takeTx_ok {s : List UInt8} {t : TxD} (hs : s.length ≤ 4194304) (h : takeTx s = some t) : t.ok := by
  unfold takeTx at h
  cases hp : parseAll s with
  | error e => rw [hp] at h; cases h
  | ok it =>
    obtain ⟨_, _, _, hw⟩ := parseAll_ok hp
    have hwe := wt_eq it
    rw [hp] at h
    simp only at h
    cases hr : readTx it.items with
    | none => rw [hr] at h; cases h
    | some t2 =>
      have hto := readTx_ok hr (by omega)
      rw [hr] at h
      simp only at h
      split at h
      · cases h; exact hto
      · cases h
theorem zeroTx_ok : zeroTx.ok := by constructor <;> first | decide | (intro x hx; cases hx)
theorem takes_both (s : List UInt8) (hs : s.length ≤ 4194304) : ∃ (t : TxD) (b : Bool), t.ok ∧ Contract Try.prog 14 [.str s] (.tup [t.dull, .int .i64 (if b = true then 0 else 1)]) ∧ Contract Try.prog 15 [.str s] (.tup [t.av, .bool b]) := by
  have h1 := c_tx_TakeT s hs
  have h2 := c_ref7_Take s hs
  cases ht : takeTx s with
  | none => rw [ht] at h1 h2; exact ⟨zeroTx, false, zeroTx_ok, h1, h2⟩
  | some t => rw [ht] at h1 h2; exact ⟨t, true, takeTx_ok hs ht, h1, h2⟩
theorem got_dull (t : TxD) (J : Imm) (n : Nat) : Dull (t.dull.isoA J n) t.av := by
  unfold TxD.dull TxD.av TxD.cells ints strs
  simp only [AV.isoA, AV.iso, List.map_cons, List.map_nil]
  refine dulls_agg ?_
  repeat' (first | exact Dulls.nil | exact Dull.refl _ | exact Dull.hd _ _ _ _ rfl (dsl _ _ _) | refine Dulls.cons ?_ ?_)
theorem got_iso (t : TxD) (J : Imm) (n : Nat) : Iso J n (t.dull.isoA J n) t.dull := by
  unfold TxD.dull
  simp only [AV.isoA, AV.iso, List.map_cons, List.map_nil]
  refine .agg _ _ rfl ?_
  repeat' (first | exact iso_nil _ _ | exact Iso.int _ _ | exact Iso.hd _ _ | refine iso_cons ?_ ?_)
def spc7 (f : FuncId) : Bool := Nat.beq f 14 || Nat.beq f 18
theorem spc7_heavy : spc7 13 = false := rfl
theorem spc7_Take : spc7 14 = true := rfl
theorem spc7_ref : spc7 15 = false := rfl
theorem spc7_num : spc7 16 = false := rfl
theorem spc7_Eq : spc7 17 = false := rfl
theorem spc7_Tx : spc7 18 = true := rfl
theorem spc7_wakes : spc7 19 = false := rfl
theorem c_TxTakes (l : List Ask7) (hl : l.length ≤ 1099511627776) (hok : ∀ a ∈ l, a.ok) : Contract Try.prog 4 [asks7 l] (.bool true) := by
  refine contract_of (C := cfs 64 [0, 2, 3, 4, 5, 6, 7, 15, 22, 60] ( spc7)) (cfs_ok _ _ _) (fn := Try.f4) Try.func4 (by kernel_rfl) rfl (by kernel_rfl) (by simp [cfs]) (hspc := fun _ => rfl) (plain1 (asks7_plain l)) (by decide) (noCell (by kernel_rfl)) ?_
  simp only [go_sem, seval, cfs, asks7, spc7_heavy, spc7_Take, spc7_ref, spc7_num, spc7_Eq, spc7_Tx, spc7_wakes]
  refine ex_iter [0, 3] (fun i : Nat => ⟨[(0, .sl false 26 (l.map Ask7.av)), (3, .int .i64 i)], []⟩) (fun i => i ≤ l.length) (fun i => l.length - i) 0 ?_ ?_ ?_
  · simp only [ASt.keep, consIf, keepL, keepV, AV.isBot, List.contains_cons, List.contains_nil, Nat.reduceBEq, Bool.or_false, Bool.false_or, Bool.or_true, Bool.true_or, beq_self_eq_true, Bool.false_eq_true, ↓reduceIte, if_false, if_true]
    rfl
  · exact Nat.zero_le _
  · intro n i hi next
    simp only [go_sem, seval, List.length_map]
    refine ex_joinB 15 (decide (i < l.length) && decide (i < 8)) ?_ ?_
    · repeat' (first | (refine ex_split (fun h => ?_) (fun h => ?_)) | (with_reducible refine And.intro (by omega) ?_) |
        (simp only [go_sem, seval]))
      all_goals (try simp only [ASt.mk.injEq, List.cons.injEq, Prod.mk.injEq, AV.bool.injEq, true_and, and_true, eq_self])
      all_goals first | (simp_all; done) | (simp_all; omega) | (rw [Bool.eq_iff_iff]; simp only [List.length_map, Bool.or_eq_true, Bool.and_eq_true, Bool.not_eq_true', Bool.not_eq_false', decide_eq_true_eq, decide_eq_false_iff_not, bne_iff_ne, beq_iff_eq, ne_eq, true_iff, iff_true, false_iff, iff_false, Bool.false_eq_true, not_false_eq_true, not_true_eq_false] at *; omega)
    simp only [go_sem, seval]
    refine ex_br (fun h => ?_) (fun h => ?_)
    · have hlt : i < l.length := by simp at h; omega
      have hi8 : i < 8 := by simp at h; omega
      obtain ⟨a, ea⟩ : ∃ a, l[i]? = some a := ⟨_, List.getElem?_eq_getElem hlt⟩
      have ho := hok a (List.mem_of_getElem? ea)
      have hot := ho.t
      have hh := c_law7_heavy a ho
      unfold Ask7.av at hh
      cases hv : heavy7 a with
      | true =>
        rw [hv] at hh
        simp only [go_sem, seval, spc7_heavy, spc7_Take, spc7_ref, spc7_num, spc7_Eq, spc7_Tx, spc7_wakes, List.length_map, List.getElem?_map, ea, Int.toNat_natCast, Ask7.av]
        repeat with_reducible refine And.intro (by first | omega | (simp only [List.length_cons, List.length_append, List.length_nil, List.length_map, List.length_take, List.length_drop, List.length_set]; omega)) ?_
        try simp only [go_sem, seval, Ask7.av, spc7_heavy, spc7_Take, spc7_ref, spc7_num, spc7_Eq, spc7_Tx, spc7_wakes]
        refine ex_call (by exact hh) ?_
        simp only [go_sem, seval]
        refine finOne ?_ (fun _ e => by cases e)
        show resOf _ _ [.tmp 2] = _
        simp only [go_sem, seval]
      | false =>
        rw [hv] at hh
        have hs5 := heavy7_no hv
        simp only [go_sem, seval, spc7_heavy, spc7_Take, spc7_ref, spc7_num, spc7_Eq, spc7_Tx, spc7_wakes, List.length_map, List.getElem?_map, ea, Int.toNat_natCast, Ask7.av]
        repeat with_reducible refine And.intro (by first | omega | (simp only [List.length_cons, List.length_append, List.length_nil, List.length_map, List.length_take, List.length_drop, List.length_set]; omega)) ?_
        try simp only [go_sem, seval, Ask7.av, spc7_heavy, spc7_Take, spc7_ref, spc7_num, spc7_Eq, spc7_Tx, spc7_wakes]
        refine ex_call (by exact hh) ?_
        simp only [go_sem, seval, spc7_heavy, spc7_Take, spc7_ref, spc7_num, spc7_Eq, spc7_Tx, spc7_wakes, List.length_map, List.getElem?_map, ea, Int.toNat_natCast, Ask7.av]
        repeat with_reducible refine And.intro (by first | omega | (simp only [List.length_cons, List.length_append, List.length_nil, List.length_map, List.length_take, List.length_drop, List.length_set]; omega)) ?_
        try simp only [go_sem, seval, Ask7.av, spc7_heavy, spc7_Take, spc7_ref, spc7_num, spc7_Eq, spc7_Tx, spc7_wakes]
        obtain ⟨t, b, hto, hT, hR⟩ := takes_both a.s (by omega)
        have hd := got_dull t
        have hi := got_iso t
        have heq := c_EqTx t t hto hto
        rw [decide_eq_true rfl] at heq
        unfold TxD.dull at hT hd hi
        unfold TxD.av TxD.cells ints strs at hR
        simp only [AV.isoA, AV.iso, List.map_cons, List.map_nil] at hd hi
        refine ex_fork [0] [] (.cons (.refl _) .nil) (by exact hT) rfl rfl ?hok (fun J m => ?_)
        case hok =>
          refine ⟨?_, vok_nil _⟩
          repeat' (first | exact hok_nil _ | refine hok_cons (fun e => absurd e (by decide)) ?_ | refine hok_cons (fun _ c hc => by obtain ⟨x, _, rfl⟩ := List.mem_map.1 hc; exact x.plain) ?_)
        simp only [go_sem, seval, ASt.hold, AV.holdA, AV.hold, AV.isoT, AV.isoA, AV.iso, spc7_heavy, spc7_Take, spc7_ref, spc7_num, spc7_Eq, spc7_Tx, spc7_wakes, List.length_map, List.getElem?_map, ea, Int.toNat_natCast, Ask7.av]
        repeat with_reducible refine And.intro (by first | omega | (simp only [List.length_cons, List.length_append, List.length_nil, List.length_map, List.length_take, List.length_drop, List.length_set]; omega)) ?_
        try simp only [go_sem, seval, spc7_heavy, spc7_Take, spc7_ref, spc7_num, spc7_Eq, spc7_Tx, spc7_wakes, List.length_map, List.getElem?_map, ea, Int.toNat_natCast, Ask7.av]
        refine ex_call (by exact hR) ?_
        cases b
        · simp only [go_sem, seval, spc7_heavy, spc7_Take, spc7_ref, spc7_num, spc7_Eq, spc7_Tx, spc7_wakes, List.length_map, List.getElem?_map, ea, Int.toNat_natCast, Ask7.av]
          refine ex_call (by exact c_law7_num _) ?_
          simp only [go_sem, seval, spc7_heavy, spc7_Take, spc7_ref, spc7_num, spc7_Eq, spc7_Tx, spc7_wakes, List.length_map, List.getElem?_map, ea, Int.toNat_natCast, Ask7.av]
          refine ex_call (by exact c_law7_num _) ?_
          simp only [go_sem, seval, spc7_heavy, spc7_Take, spc7_ref, spc7_num, spc7_Eq, spc7_Tx, spc7_wakes, List.length_map, List.getElem?_map, ea, Int.toNat_natCast, Ask7.av]
          refine ex_call_dull (.cons (hd J m) (.cons (.refl _) .nil)) (by exact heq) ?_
          simp only [go_sem, seval, spc7_heavy, spc7_Take, spc7_ref, spc7_num, spc7_Eq, spc7_Tx, spc7_wakes, List.length_map, List.getElem?_map, ea, Int.toNat_natCast, Ask7.av]
          refine ex_spoil (J := J) (n := m) (hi J m) (spoil_Tx t hto) ?hel ?_
          case hel =>
            refine ⟨?_, ?_⟩
            repeat' (first | exact hel_nil _ | exact vel_nil _ | exact eel_nil _ | exact trivial | exact ⟨rfl, rfl⟩ | refine hel_cons ?_ ?_ | refine vel_cons ?_ ?_ | refine eel_cons ?_ ?_)
          simp only [go_sem, seval, ASt.back, AV.back, AV.back1, AV.stays, spc7_heavy, spc7_Take, spc7_ref, spc7_num, spc7_Eq, spc7_Tx, spc7_wakes, List.length_map, List.getElem?_map, ea, Int.toNat_natCast, Ask7.av]
          refine next (i + 1) _ (by omega) (by omega) ?_
          rw [← wi64_nat i (by omega)]
          simp only [ASt.keep, consIf, keepL, keepV, AV.isBot, List.contains_cons, List.contains_nil, Nat.reduceBEq, Bool.or_false, Bool.false_or, Bool.or_true, Bool.true_or, beq_self_eq_true, Bool.false_eq_true, ↓reduceIte, if_false, if_true]
        · simp only [go_sem, seval, spc7_heavy, spc7_Take, spc7_ref, spc7_num, spc7_Eq, spc7_Tx, spc7_wakes, List.length_map, List.getElem?_map, ea, Int.toNat_natCast, Ask7.av]
          refine ex_call (by exact c_law7_num _) ?_
          simp only [go_sem, seval, spc7_heavy, spc7_Take, spc7_ref, spc7_num, spc7_Eq, spc7_Tx, spc7_wakes, List.length_map, List.getElem?_map, ea, Int.toNat_natCast, Ask7.av]
          refine ex_call_dull (.cons (hd J m) (.cons (.refl _) .nil)) (by exact heq) ?_
          simp only [go_sem, seval, spc7_heavy, spc7_Take, spc7_ref, spc7_num, spc7_Eq, spc7_Tx, spc7_wakes, List.length_map, List.getElem?_map, ea, Int.toNat_natCast, Ask7.av]
          refine ex_spoil (J := J) (n := m) (hi J m) (spoil_Tx t hto) ?hel2 ?_
          case hel2 =>
            refine ⟨?_, ?_⟩
            repeat' (first | exact hel_nil _ | exact vel_nil _ | exact eel_nil _ | exact trivial | exact ⟨rfl, rfl⟩ | refine hel_cons ?_ ?_ | refine vel_cons ?_ ?_ | refine eel_cons ?_ ?_)
          simp only [go_sem, seval, ASt.back, AV.back, AV.back1, AV.stays, spc7_heavy, spc7_Take, spc7_ref, spc7_num, spc7_Eq, spc7_Tx, spc7_wakes, List.length_map, List.getElem?_map, ea, Int.toNat_natCast, Ask7.av]
          refine next (i + 1) _ (by omega) (by omega) ?_
          rw [← wi64_nat i (by omega)]
          simp only [ASt.keep, consIf, keepL, keepV, AV.isBot, List.contains_cons, List.contains_nil, Nat.reduceBEq, Bool.or_false, Bool.false_or, Bool.or_true, Bool.true_or, beq_self_eq_true, Bool.false_eq_true, ↓reduceIte, if_false, if_true]
    · simp only [go_sem, seval, spc7_heavy, spc7_Take, spc7_ref, spc7_num, spc7_Eq, spc7_Tx, spc7_wakes]
      refine ex_call (by exact c_law7_wakes) ?_
      simp only [go_sem, seval]
      refine finOne ?_ (fun _ e => by cases e)
      show resOf _ _ [.tmp 2] = _
      simp only [go_sem, seval]
theorem law_TxTakes (x : AV) (h : Ty ti 41 x) : Contract Try.prog 4 [x] (.bool true) := by
  obtain ⟨l, rfl, hl, hok⟩ := ty_asks7 h
  exact c_TxTakes l hl hok
end Go.Proofs.Ytdenldjlijoeoaa.VA
end
