/- Transactions as data; what they cost. Transactions among the data that a law is asked with. Rows of transactions among the data that a law is asked with. Which transactions may be, by the page; their costs; pairs. Copies of rows of marks and of texts. Transactions: copies, weights, plain ones. Transactions: comparisons. Rows of transactions. Rows of transactions: copies, comparisons, weights. Numbers of 256 bits as bytes. Numbers of 256 bits as bytes: the page's own, and back. The number of bytes. The page's difference. What a transaction costs, what it pays; the difference of numbers. Chains: which may be, what they cost together. A transaction's cells. tx.Copy. Chains by the page; copies. -/
import Derived.Test.YtpepfhbfooeoeaaT1
import Derived.Test.YtpepfhbfooeoeaaT2
import Derived.Test.YtpepfhbfooeoeaaT3
import Derived.Test.YtpepfhbfooeoeaaT4
section
/- Transactions as data; what they cost. -/
namespace Go.Proofs.Ytpepfhbfooeoeaa.VA
set_option maxRecDepth 10000
set_option linter.unusedSimpArgs false
set_option linter.unusedVariables false
set_option maxHeartbeats 8000000

structure TxD where
  frm : Int
  nonce : Int
  tip : Nat
  cap : Nat
  bcap : Nat
  value : Nat
  gas : Int
  hashes : List Int
  blobs : List (List UInt8)
def TxD.cells (t : TxD) : List AV := [.int .i64 t.frm, .int .i64 t.nonce, .int .u64 (lim t.tip 0), .int .u64 (lim t.tip 1), .int .u64 (lim t.tip 2), .int .u64 (lim t.tip 3),
  .int .u64 (lim t.cap 0), .int .u64 (lim t.cap 1), .int .u64 (lim t.cap 2), .int .u64 (lim t.cap 3), .int .u64 (lim t.bcap 0), .int .u64 (lim t.bcap 1), .int .u64 (lim t.bcap 2), .int .u64 (lim t.bcap 3),
  .int .u64 (lim t.value 0), .int .u64 (lim t.value 1), .int .u64 (lim t.value 2), .int .u64 (lim t.value 3), .int .i64 t.gas, ints .u64 t.hashes, strs t.blobs]
def TxD.av (t : TxD) : AV := .agg t.cells
theorem TxD.plain (t : TxD) : Plain t.av := .agg _ fun c hc => by
  simp only [TxD.cells, List.mem_cons, List.not_mem_nil, or_false] at hc
  rcases hc with rfl | rfl | rfl | rfl | rfl | rfl | rfl | rfl | rfl | rfl | rfl | rfl | rfl | rfl | rfl | rfl | rfl | rfl | rfl | rfl | rfl <;> first | exact .int _ _ | exact ints_plain _ _ | exact strs_plain _
/-- What data of a transaction may be at all. -/
structure TxD.ok (t : TxD) : Prop where
  frm : -9223372036854775808 ≤ t.frm ∧ t.frm ≤ 9223372036854775807
  nonce : -9223372036854775808 ≤ t.nonce ∧ t.nonce ≤ 9223372036854775807
  gas : -9223372036854775808 ≤ t.gas ∧ t.gas ≤ 9223372036854775807
  tip : t.tip < U
  cap : t.cap < U
  bcap : t.bcap < U
  value : t.value < U
  hashes : t.hashes.length * 8 ≤ reachBytes
  blobs : t.blobs.length * 16 ≤ reachBytes
  blob : ∀ b ∈ t.blobs, b.length ≤ reachBytes

def costOf (t : TxD) : Nat := t.cap * t.gas.toNat + t.bcap * (131072 * t.blobs.length) + t.value
theorem c_MulS (n g : Nat) (hn : n < U) (hg : g < 18446744073709551616) : Contract Try.prog 133 [.agg [.int .u64 (lim n 0), .int .u64 (lim n 1), .int .u64 (lim n 2), .int .u64 (lim n 3)], .agg [.int .u64 (g : Int), .int .u64 0, .int .u64 0, .int .u64 0]] (.tup [u (if n * g < U then n * g else 0), .int .i64 (if n * g < U then 0 else 8)]) := by
  rw [← u_small g hg]
  exact c_u256_Mul n g hn (by unfold U; omega)

theorem eq_of_bne {x : Int} (h : (x != 0) = false) : x = 0 := by simpa using h
theorem res_cases {f : FuncId} {args : List AV} (A : Nat) (h : Contract Try.prog f args (.tup [u (if A < U then A else 0), .int .i64 (if A < U then 0 else 8)])) :
    ∃ (x : Nat) (e : Int), x < U ∧ (e = 0 ∧ x = A ∨ e = 8 ∧ U ≤ A) ∧ Contract Try.prog f args (.tup [u x, .int .i64 e]) := by
  refine ⟨_, _, ?_, ?_, h⟩
  · split
    · assumption
    · decide
  · by_cases hA : A < U
    · rw [if_pos hA, if_pos hA]; exact .inl ⟨rfl, rfl⟩
    · rw [if_neg hA, if_neg hA]; exact .inr ⟨rfl, by omega⟩
theorem c_tx_cost (t : TxD) (h : t.ok) (hg : 0 ≤ t.gas ∧ t.gas ≤ 1073741824) (hb : 1 ≤ t.blobs.length ∧ t.blobs.length ≤ 4) :
    Contract Try.prog 114 [t.av] (.tup [u (if costOf t < U then costOf t else 0), .bool (decide (costOf t < U))]) := by
  refine contract_of (C := cf 69 [1, 2, 3, 4, 5, 6, 7, 8, 9, 10, 11, 13, 22, 60, 61, 62, 65] (fun _ => [])) (cf_ok _ _ _) (fn := Try.f114) Try.func114 (by kernel_rfl) rfl (by kernel_rfl) (by simp [cf]) (plain1 t.plain) (by decide) (cellsOk (by kernel_rfl)) ?_
  have g1 : gasOf (t.blobs.length : Int) = ((131072 * t.blobs.length : Nat) : Int) := by unfold gasOf; rw [if_neg (by omega)]; omega
  have g2 : gasErr (t.blobs.length : Int) = 0 := by unfold gasErr; rw [if_neg (by omega)]
  have w1 : IntKind.u64.wrap t.gas = ((t.gas.toNat : Nat) : Int) := by rw [wu64 (by omega) (by omega)]; omega
  have w2 : IntKind.u64.wrap ((131072 * t.blobs.length : Nat) : Int) = ((131072 * t.blobs.length : Nat) : Int) := wu64 (by omega) (by omega)
  have c1 := c_MulS t.cap t.gas.toNat h.cap (by omega)
  have c2 := c_MulS t.bcap (131072 * t.blobs.length) h.bcap (by omega)
  obtain ⟨A, hA⟩ : ∃ A, A = t.cap * t.gas.toNat := ⟨_, rfl⟩
  obtain ⟨B, hB⟩ : ∃ B, B = t.bcap * (131072 * t.blobs.length) := ⟨_, rfl⟩
  rw [← hA] at c1
  rw [← hB] at c2
  have hcost : costOf t = A + B + t.value := by rw [hA, hB]; rfl
  rw [hcost]
  obtain ⟨x, e1, hx, hx2, c1'⟩ : ∃ (x : Nat) (e1 : Int), x < U ∧ (e1 = 0 ∧ x = A ∨ e1 = 8 ∧ U ≤ A) ∧ Contract Try.prog 133 [.agg [.int .u64 (lim t.cap 0), .int .u64 (lim t.cap 1), .int .u64 (lim t.cap 2), .int .u64 (lim t.cap 3)], .agg [.int .u64 (t.gas.toNat : Int), .int .u64 0, .int .u64 0, .int .u64 0]] (.tup [u x, .int .i64 e1]) := res_cases A c1
  obtain ⟨y, e2, hy, hy2, c2'⟩ : ∃ (x : Nat) (e1 : Int), x < U ∧ (e1 = 0 ∧ x = B ∨ e1 = 8 ∧ U ≤ B) ∧ Contract Try.prog 133 [.agg [.int .u64 (lim t.bcap 0), .int .u64 (lim t.bcap 1), .int .u64 (lim t.bcap 2), .int .u64 (lim t.bcap 3)], .agg [.int .u64 ((131072 * t.blobs.length : Nat) : Int), .int .u64 0, .int .u64 0, .int .u64 0]] (.tup [u x, .int .i64 e1]) := res_cases B c2
  obtain ⟨z, e3, hz, hz2, c3⟩ : ∃ (z : Nat) (e : Int), z < U ∧ (e = 0 ∧ z = x + y ∨ e = 8 ∧ U ≤ x + y) ∧ Contract Try.prog 101 [u x, u y] (.tup [u z, .int .i64 e]) := res_cases (x + y) (c_u256_Add x y hx hy)
  obtain ⟨v, e4, hv, hv2, c4⟩ : ∃ (v : Nat) (e : Int), v < U ∧ (e = 0 ∧ v = z + t.value ∨ e = 8 ∧ U ≤ z + t.value) ∧ Contract Try.prog 101 [u z, u t.value] (.tup [u v, .int .i64 e]) := res_cases (z + t.value) (c_u256_Add z t.value hz h.value)
  have hz4 : u 0 = _ := u_small 0 (by decide)
  have fin : (e1 = 0 ∧ e2 = 0 ∧ e3 = 0 ∧ e4 = 0 → A + B + t.value < U ∧ v = A + B + t.value) ∧ (e1 ≠ 0 ∨ e2 ≠ 0 ∨ e3 ≠ 0 ∨ e4 ≠ 0 → ¬ A + B + t.value < U) := by
    clear c1 c2 c1' c2' c3 c4 hA hB hcost hz4
    constructor
    · rintro ⟨q1, q2, q3, q4⟩; omega
    · intro q; omega
  clear c1 c2 hA hB hx2 hy2 hz2 hv2 hcost
  generalize A + B + t.value = T at fin
  simp only [go_sem, ↓reduceIte, Nat.reduceLT, Nat.reduceLeDiff, Nat.reduceAdd, Nat.reduceSub, Nat.reduceMul, Nat.reduceEqDiff, Nat.reduceBEq, Nat.reduceMod, Nat.reduceDiv, Int.reduceToNat, reduceCtorEq, Int.reduceLT, Int.reduceLE, Int.reduceGT, Int.reduceGE, Int.reduceAdd, Int.reduceSub, Int.reduceMul, Int.reduceNeg, Int.reduceEq, Int.reduceNe, Int.reduceBNe, Int.reduceBEq, Int.reduceDiv, TxD.av, TxD.cells, ints, strs, List.length_map]
  refine ex_call (c_blob_Gas _) ?_
  simp only [go_sem, ↓reduceIte, Nat.reduceLT, Nat.reduceLeDiff, Nat.reduceAdd, Nat.reduceSub, Nat.reduceMul, Nat.reduceEqDiff, Nat.reduceBEq, Nat.reduceMod, Nat.reduceDiv, Int.reduceToNat, reduceCtorEq, Int.reduceLT, Int.reduceLE, Int.reduceGT, Int.reduceGE, Int.reduceAdd, Int.reduceSub, Int.reduceMul, Int.reduceNeg, Int.reduceEq, Int.reduceNe, Int.reduceBNe, Int.reduceBEq, Int.reduceDiv, g1, g2, w1, w2]
  refine ex_call c1' ?_
  simp only [go_sem, ↓reduceIte, Nat.reduceLT, Nat.reduceLeDiff, Nat.reduceAdd, Nat.reduceSub, Nat.reduceMul, Nat.reduceEqDiff, Nat.reduceBEq, Nat.reduceMod, Nat.reduceDiv, Int.reduceToNat, reduceCtorEq, Int.reduceLT, Int.reduceLE, Int.reduceGT, Int.reduceGE, Int.reduceAdd, Int.reduceSub, Int.reduceMul, Int.reduceNeg, Int.reduceEq, Int.reduceNe, Int.reduceBNe, Int.reduceBEq, Int.reduceDiv, u, w1, w2]
  refine ex_call c2' ?_
  simp only [go_sem, ↓reduceIte, Nat.reduceLT, Nat.reduceLeDiff, Nat.reduceAdd, Nat.reduceSub, Nat.reduceMul, Nat.reduceEqDiff, Nat.reduceBEq, Nat.reduceMod, Nat.reduceDiv, Int.reduceToNat, reduceCtorEq, Int.reduceLT, Int.reduceLE, Int.reduceGT, Int.reduceGE, Int.reduceAdd, Int.reduceSub, Int.reduceMul, Int.reduceNeg, Int.reduceEq, Int.reduceNe, Int.reduceBNe, Int.reduceBEq, Int.reduceDiv, u, w1, w2]
  refine ex_call (by exact c3) ?_
  simp only [go_sem, ↓reduceIte, Nat.reduceLT, Nat.reduceLeDiff, Nat.reduceAdd, Nat.reduceSub, Nat.reduceMul, Nat.reduceEqDiff, Nat.reduceBEq, Nat.reduceMod, Nat.reduceDiv, Int.reduceToNat, reduceCtorEq, Int.reduceLT, Int.reduceLE, Int.reduceGT, Int.reduceGE, Int.reduceAdd, Int.reduceSub, Int.reduceMul, Int.reduceNeg, Int.reduceEq, Int.reduceNe, Int.reduceBNe, Int.reduceBEq, Int.reduceDiv, u]
  refine ex_call (by exact c4) ?_
  simp only [go_sem, ↓reduceIte, Nat.reduceLT, Nat.reduceLeDiff, Nat.reduceAdd, Nat.reduceSub, Nat.reduceMul, Nat.reduceEqDiff, Nat.reduceBEq, Nat.reduceMod, Nat.reduceDiv, Int.reduceToNat, reduceCtorEq, Int.reduceLT, Int.reduceLE, Int.reduceGT, Int.reduceGE, Int.reduceAdd, Int.reduceSub, Int.reduceMul, Int.reduceNeg, Int.reduceEq, Int.reduceNe, Int.reduceBNe, Int.reduceBEq, Int.reduceDiv, u]
  refine ex_loop [2, 60, 61] 5 ?_
  iterate 4
    simp only [go_sem, ↓reduceIte, Nat.reduceLT, Nat.reduceLeDiff, Nat.reduceAdd, Nat.reduceSub, Nat.reduceMul, Nat.reduceEqDiff, Nat.reduceBEq, Nat.reduceMod, Nat.reduceDiv, Int.reduceToNat, reduceCtorEq, Int.reduceLT, Int.reduceLE, Int.reduceGT, Int.reduceGE, Int.reduceAdd, Int.reduceSub, Int.reduceMul, Int.reduceNeg, Int.reduceEq, Int.reduceNe, Int.reduceBNe, Int.reduceBEq, Int.reduceDiv, ex_round, Int.cast_ofNat_Int, wi64]
    refine ex_br (fun h => ?_) (fun h => ?_)
    · have hn : ¬ T < U := fin.2 (by simp only [bne_iff_ne] at h; simp only [h, ne_eq, not_false_eq_true, true_or, or_true])
      rw [if_neg hn, decide_eq_false hn]
      simp only [go_sem, ↓reduceIte, Nat.reduceLT, Nat.reduceLeDiff, Nat.reduceAdd, Nat.reduceSub, Nat.reduceMul, Nat.reduceEqDiff, Nat.reduceBEq, Nat.reduceMod, Nat.reduceDiv, Int.reduceToNat, reduceCtorEq, Int.reduceLT, Int.reduceLE, Int.reduceGT, Int.reduceGE, Int.reduceAdd, Int.reduceSub, Int.reduceMul, Int.reduceNeg, Int.reduceEq, Int.reduceNe, Int.reduceBNe, Int.reduceBEq, Int.reduceDiv]
      refine finTup ?_
      show resOf _ _ [.cell 2 25, .tmp 3] = _
      simp only [go_sem, ↓reduceIte, Nat.reduceLT, Nat.reduceLeDiff, Nat.reduceAdd, Nat.reduceSub, Nat.reduceMul, Nat.reduceEqDiff, Nat.reduceBEq, Nat.reduceMod, Nat.reduceDiv, Int.reduceToNat, reduceCtorEq, Int.reduceLT, Int.reduceLE, Int.reduceGT, Int.reduceGE, Int.reduceAdd, Int.reduceSub, Int.reduceMul, Int.reduceNeg, Int.reduceEq, Int.reduceNe, Int.reduceBNe, Int.reduceBEq, Int.reduceDiv]
      try rfl
    have h := eq_of_bne h
  obtain ⟨f1, f2⟩ := fin.1 (by refine ⟨?_, ?_, ?_, ?_⟩ <;> assumption)
  rw [if_pos f1, decide_eq_true f1, ← f2]
  simp only [go_sem, ↓reduceIte, Nat.reduceLT, Nat.reduceLeDiff, Nat.reduceAdd, Nat.reduceSub, Nat.reduceMul, Nat.reduceEqDiff, Nat.reduceBEq, Nat.reduceMod, Nat.reduceDiv, Int.reduceToNat, reduceCtorEq, Int.reduceLT, Int.reduceLE, Int.reduceGT, Int.reduceGE, Int.reduceAdd, Int.reduceSub, Int.reduceMul, Int.reduceNeg, Int.reduceEq, Int.reduceNe, Int.reduceBNe, Int.reduceBEq, Int.reduceDiv, ex_round, Int.cast_ofNat_Int, wi64]
  refine finTup ?_
  show resOf _ _ [.cell 2 25, .tmp 3] = _
  simp only [go_sem, ↓reduceIte, Nat.reduceLT, Nat.reduceLeDiff, Nat.reduceAdd, Nat.reduceSub, Nat.reduceMul, Nat.reduceEqDiff, Nat.reduceBEq, Nat.reduceMod, Nat.reduceDiv, Int.reduceToNat, reduceCtorEq, Int.reduceLT, Int.reduceLE, Int.reduceGT, Int.reduceGE, Int.reduceAdd, Int.reduceSub, Int.reduceMul, Int.reduceNeg, Int.reduceEq, Int.reduceNe, Int.reduceBNe, Int.reduceBEq, Int.reduceDiv]
  try rfl

/-! The page's own answer. -/
theorem res_casesB {f : FuncId} {args : List AV} (A : Nat) (h : Contract Try.prog f args (.tup [u (if A < U then A else 0), .bool (decide (A < U))])) :
    ∃ (x : Nat) (e : Bool), x < U ∧ (e = true ∧ x = A ∧ A < U ∨ e = false ∧ U ≤ A) ∧ (e = false → x = 0) ∧ Contract Try.prog f args (.tup [u x, .bool e]) := by
  refine ⟨_, _, ?_, ?_, fun e => if_neg (of_decide_eq_false e), h⟩
  · split
    · assumption
    · decide
  · by_cases hA : A < U
    · rw [if_pos hA, decide_eq_true hA]; exact .inl ⟨rfl, rfl, hA⟩
    · rw [if_neg hA, decide_eq_false hA]; exact .inr ⟨rfl, by omega⟩
theorem c_ref1_OfL (g : Nat) (hg : g ≤ 9223372036854775807) : Contract Try.prog 118 [.int .i64 g] (.agg [.int .u64 (g : Int), .int .u64 0, .int .u64 0, .int .u64 0]) := by
  have w : IntKind.u64.wrap (g : Int) = g := wu64 (by omega) (by omega)
  refine contract_of (C := cf 6 [0, 2] (fun _ => [])) (cf_ok _ _ _) (fn := Try.f118) Try.func118 (by kernel_rfl) rfl (by kernel_rfl) (by simp [cf]) (plain1 (.int _ _)) (by decide) (cellsOk (by kernel_rfl)) ?_
  simp only [go_sem, ↓reduceIte, Nat.reduceLT, Nat.reduceLeDiff, Nat.reduceAdd, Nat.reduceSub, Nat.reduceMul, Nat.reduceEqDiff, Nat.reduceBEq, Nat.reduceMod, Nat.reduceDiv, Int.reduceToNat, reduceCtorEq, Int.reduceLT, Int.reduceLE, Int.reduceGT, Int.reduceGE, Int.reduceAdd, Int.reduceSub, Int.reduceMul, Int.reduceNeg, Int.reduceEq, Int.reduceNe, Int.reduceBNe, Int.reduceBEq, Int.reduceDiv, w]
  refine finOne ?_ (fun _ e => by cases e)
  show resOf _ _ [.cell 2 25] = _
  simp only [go_sem, ↓reduceIte, Nat.reduceLT, Nat.reduceLeDiff, Nat.reduceAdd, Nat.reduceSub, Nat.reduceMul, Nat.reduceEqDiff, Nat.reduceBEq, Nat.reduceMod, Nat.reduceDiv, Int.reduceToNat, reduceCtorEq, Int.reduceLT, Int.reduceLE, Int.reduceGT, Int.reduceGE, Int.reduceAdd, Int.reduceSub, Int.reduceMul, Int.reduceNeg, Int.reduceEq, Int.reduceNe, Int.reduceBNe, Int.reduceBEq, Int.reduceDiv]
theorem c_rMulS (n g : Nat) (hn : n < U) (hg : g < 18446744073709551616) : Contract Try.prog 117 [.agg [.int .u64 (lim n 0), .int .u64 (lim n 1), .int .u64 (lim n 2), .int .u64 (lim n 3)], .agg [.int .u64 (g : Int), .int .u64 0, .int .u64 0, .int .u64 0]] (.tup [u (if n * g < U then n * g else 0), .bool (decide (n * g < U))]) := by
  rw [← u_small g hg]
  exact c_ref1_Mul n g hn (by unfold U; omega)
theorem c_ref7_Cost (t : TxD) (h : t.ok) (hg : 0 ≤ t.gas ∧ t.gas ≤ 1073741824) (hb : t.blobs.length ≤ 4) :
    Contract Try.prog 87 [t.av] (.tup [u (if costOf t < U then costOf t else 0), .bool (decide (costOf t < U))]) := by
  refine contract_of (C := cf 52 [1, 2, 3, 4, 5, 6, 7, 8, 9, 35, 44] (fun _ => [])) (cf_ok _ _ _) (fn := Try.f87) Try.func87 (by kernel_rfl) rfl (by kernel_rfl) (by simp [cf]) (plain1 t.plain) (by decide) (cellsOk (by kernel_rfl)) ?_
  have w1 : AV.int IntKind.i64 t.gas = .int .i64 ((t.gas.toNat : Nat) : Int) := by congr 1; omega
  have w2 : IntKind.i64.wrap (131072 * (t.blobs.length : Int)) = ((131072 * t.blobs.length : Nat) : Int) := by rw [wi64 (by omega) (by omega)]; omega
  have c1 := c_rMulS t.cap t.gas.toNat h.cap (by omega)
  have c2 := c_rMulS t.bcap (131072 * t.blobs.length) h.bcap (by omega)
  have o1 := c_ref1_OfL t.gas.toNat (by omega)
  have o2 := c_ref1_OfL (131072 * t.blobs.length) (by omega)
  obtain ⟨A, hA⟩ : ∃ A, A = t.cap * t.gas.toNat := ⟨_, rfl⟩
  obtain ⟨B, hB⟩ : ∃ B, B = t.bcap * (131072 * t.blobs.length) := ⟨_, rfl⟩
  rw [← hA] at c1
  rw [← hB] at c2
  have hcost : costOf t = A + B + t.value := by rw [hA, hB]; rfl
  rw [hcost]
  obtain ⟨x, e1, hx, hx2, _, c1'⟩ := res_casesB A c1
  obtain ⟨y, e2, hy, hy2, _, c2'⟩ := res_casesB B c2
  obtain ⟨z, e3, hz, hz2, _, c3⟩ := res_casesB (x + y) (c_ref1_Add x y hx hy)
  obtain ⟨v, e4, hv, hv2, hv0, c4⟩ := res_casesB (z + t.value) (c_ref1_Add z t.value hz h.value)
  have hz4 : u 0 = _ := u_small 0 (by decide)
  have fin : (e1 = true → e2 = true → e3 = true → (A + B + t.value < U ∧ e4 = true ∧ v = A + B + t.value) ∨ (¬ A + B + t.value < U ∧ e4 = false ∧ v = 0)) ∧ (e1 = false ∨ e2 = false ∨ e3 = false → ¬ A + B + t.value < U) := by
    clear c1 c2 c1' c2' c3 c4 hA hB hcost hz4 o1 o2 w1 w2
    constructor
    · rintro rfl rfl rfl
      obtain ⟨_, rfl, q1⟩ | ⟨q, _⟩ := hx2
      · obtain ⟨_, rfl, q2⟩ | ⟨q, _⟩ := hy2
        · obtain ⟨_, rfl, q3⟩ | ⟨q, _⟩ := hz2
          · obtain ⟨r1, r2, r3⟩ | ⟨r1, r2⟩ := hv2
            · exact .inl ⟨r3, r1, r2⟩
            · exact .inr ⟨by omega, r1, hv0 r1⟩
          · cases q
        · cases q
      · cases q
    · intro q
      obtain ⟨_, rfl, q1⟩ | ⟨_, q1⟩ := hx2
      · obtain ⟨_, rfl, q2⟩ | ⟨_, q2⟩ := hy2
        · obtain ⟨_, rfl, q3⟩ | ⟨_, q3⟩ := hz2
          · simp_all
          · omega
        · omega
      · omega
  clear c1 c2 hA hB hx2 hy2 hz2 hv2 hcost
  generalize A + B + t.value = T at fin
  simp only [go_sem, ↓reduceIte, Nat.reduceLT, Nat.reduceLeDiff, Nat.reduceAdd, Nat.reduceSub, Nat.reduceMul, Nat.reduceEqDiff, Nat.reduceBEq, Nat.reduceMod, Nat.reduceDiv, Int.reduceToNat, reduceCtorEq, Int.reduceLT, Int.reduceLE, Int.reduceGT, Int.reduceGE, Int.reduceAdd, Int.reduceSub, Int.reduceMul, Int.reduceNeg, Int.reduceEq, Int.reduceNe, Int.reduceBNe, Int.reduceBEq, Int.reduceDiv, TxD.av, TxD.cells, ints, strs, List.length_map]
  refine ex_draw [] [4] (.quiet 0 (.quiet 1 (.quiet 2 (.quiet 3 (.two 4 (.two 5 (.quiet 6 (.quiet 7 (.quiet 8 (.one 9 (.lone 10 (.quiet 11 (.fin))))))) 9 (.one 5 (.quiet 6 (.quiet 7 (.quiet 8 (.lone 10 (.quiet 11 (.fin)))))))) 9 (.one 4 (.one 5 (.quiet 6 (.quiet 7 (.quiet 8 (.lone 10 (.quiet 11 (.fin))))))))))))) (by kernel_rfl) ?_
  refine ex_drawn ⟨[(1, .var 1 0), (2, .var 2 0), (3, .bool false), (4, .var 4 0), (5, .bool e1)], [(1, [.int .i64 t.frm, .int .i64 t.nonce, .int .u64 (lim t.tip 0), .int .u64 (lim t.tip 1), .int .u64 (lim t.tip 2), .int .u64 (lim t.tip 3),
  .int .u64 (lim t.cap 0), .int .u64 (lim t.cap 1), .int .u64 (lim t.cap 2), .int .u64 (lim t.cap 3), .int .u64 (lim t.bcap 0), .int .u64 (lim t.bcap 1), .int .u64 (lim t.bcap 2), .int .u64 (lim t.bcap 3),
  .int .u64 (lim t.value 0), .int .u64 (lim t.value 1), .int .u64 (lim t.value 2), .int .u64 (lim t.value 3), .int .i64 t.gas, .sl false 1 (t.hashes.map (AV.int .u64)), .sl false 1 (t.blobs.map AV.str)]), (2, [.int .u64 0, .int .u64 0, .int .u64 0, .int .u64 0]), (4, [.int .u64 (lim x 0), .int .u64 (lim x 1), .int .u64 (lim x 2), .int .u64 (lim x 3)])], []⟩ ?_ ?_
  · rw [← w1] at o1
    repeat' (first | (with_reducible refine And.intro ?_ ?_) | (refine ex_call o1 ?_) | (refine ex_call c1' ?_) |
      (simp only [go_sem, ↓reduceIte, Nat.reduceLT, Nat.reduceLeDiff, Nat.reduceAdd, Nat.reduceSub, Nat.reduceMul, Nat.reduceEqDiff, Nat.reduceBEq, Nat.reduceMod, Nat.reduceDiv, Int.reduceToNat, reduceCtorEq, Int.reduceLT, Int.reduceLE, Int.reduceGT, Int.reduceGE, Int.reduceAdd, Int.reduceSub, Int.reduceMul, Int.reduceNeg, Int.reduceEq, Int.reduceNe, Int.reduceBNe, Int.reduceBEq, Int.reduceDiv, ex_ord_two, u]))
  · simp only [go_sem, ↓reduceIte, Nat.reduceLT, Nat.reduceLeDiff, Nat.reduceAdd, Nat.reduceSub, Nat.reduceMul, Nat.reduceEqDiff, Nat.reduceBEq, Nat.reduceMod, Nat.reduceDiv, Int.reduceToNat, reduceCtorEq, Int.reduceLT, Int.reduceLE, Int.reduceGT, Int.reduceGE, Int.reduceAdd, Int.reduceSub, Int.reduceMul, Int.reduceNeg, Int.reduceEq, Int.reduceNe, Int.reduceBNe, Int.reduceBEq, Int.reduceDiv, List.length_map]
    refine ex_draw [] [6] (.quiet 0 (.quiet 1 (.quiet 2 (.quiet 3 (.quiet 4 (.quiet 5 (.two 6 (.two 7 (.quiet 8 (.quiet 9 (.quiet 10 (.one 11 (.lone 12 (.quiet 13 (.fin))))))) 11 (.one 7 (.quiet 8 (.quiet 9 (.quiet 10 (.lone 12 (.quiet 13 (.fin)))))))) 11 (.one 6 (.one 7 (.quiet 8 (.quiet 9 (.quiet 10 (.lone 12 (.quiet 13 (.fin))))))))))))))) (by kernel_rfl) ?_
    refine ex_drawn ⟨[(1, .var 1 0), (2, .var 2 0), (3, .bool false), (4, .var 4 0), (5, .bool e1), (6, .var 6 0), (7, .bool e2)], [(1, [.int .i64 t.frm, .int .i64 t.nonce, .int .u64 (lim t.tip 0), .int .u64 (lim t.tip 1), .int .u64 (lim t.tip 2), .int .u64 (lim t.tip 3), .int .u64 (lim t.cap 0), .int .u64 (lim t.cap 1), .int .u64 (lim t.cap 2), .int .u64 (lim t.cap 3), .int .u64 (lim t.bcap 0), .int .u64 (lim t.bcap 1), .int .u64 (lim t.bcap 2), .int .u64 (lim t.bcap 3), .int .u64 (lim t.value 0), .int .u64 (lim t.value 1), .int .u64 (lim t.value 2), .int .u64 (lim t.value 3), .int .i64 t.gas, .sl false 1 (t.hashes.map (AV.int .u64)), .sl false 1 (t.blobs.map AV.str)]), (2, [.int .u64 0, .int .u64 0, .int .u64 0, .int .u64 0]), (4, [.int .u64 (lim x 0), .int .u64 (lim x 1), .int .u64 (lim x 2), .int .u64 (lim x 3)]), (6, [.int .u64 (lim y 0), .int .u64 (lim y 1), .int .u64 (lim y 2), .int .u64 (lim y 3)])], []⟩ ?_ ?_
    · repeat' (first | (with_reducible refine And.intro ?_ ?_) | (refine ex_call o2 ?_) | (refine ex_call c2' ?_) |
        (simp only [go_sem, ↓reduceIte, Nat.reduceLT, Nat.reduceLeDiff, Nat.reduceAdd, Nat.reduceSub, Nat.reduceMul, Nat.reduceEqDiff, Nat.reduceBEq, Nat.reduceMod, Nat.reduceDiv, Int.reduceToNat, reduceCtorEq, Int.reduceLT, Int.reduceLE, Int.reduceGT, Int.reduceGE, Int.reduceAdd, Int.reduceSub, Int.reduceMul, Int.reduceNeg, Int.reduceEq, Int.reduceNe, Int.reduceBNe, Int.reduceBEq, Int.reduceDiv, ex_ord_two, u, w2, List.length_map]))
    · clear o1 o2 c1' c2'
      cases e1 with
      | false =>
        have hn := fin.2 (by simp)
        rw [if_neg hn, decide_eq_false hn, hz4]
        simp only [go_sem, ↓reduceIte, Nat.reduceLT, Nat.reduceLeDiff, Nat.reduceAdd, Nat.reduceSub, Nat.reduceMul, Nat.reduceEqDiff, Nat.reduceBEq, Nat.reduceMod, Nat.reduceDiv, Int.reduceToNat, reduceCtorEq, Int.reduceLT, Int.reduceLE, Int.reduceGT, Int.reduceGE, Int.reduceAdd, Int.reduceSub, Int.reduceMul, Int.reduceNeg, Int.reduceEq, Int.reduceNe, Int.reduceBNe, Int.reduceBEq, Int.reduceDiv]
        refine finTup ?_
        show resOf _ _ [.cell 2 25, .tmp 3] = _
        simp only [go_sem, ↓reduceIte, Nat.reduceLT, Nat.reduceLeDiff, Nat.reduceAdd, Nat.reduceSub, Nat.reduceMul, Nat.reduceEqDiff, Nat.reduceBEq, Nat.reduceMod, Nat.reduceDiv, Int.reduceToNat, reduceCtorEq, Int.reduceLT, Int.reduceLE, Int.reduceGT, Int.reduceGE, Int.reduceAdd, Int.reduceSub, Int.reduceMul, Int.reduceNeg, Int.reduceEq, Int.reduceNe, Int.reduceBNe, Int.reduceBEq, Int.reduceDiv]
        rfl
      | true =>
        cases e2 with
        | false =>
          have hn := fin.2 (by simp)
          rw [if_neg hn, decide_eq_false hn, hz4]
          simp only [go_sem, ↓reduceIte, Nat.reduceLT, Nat.reduceLeDiff, Nat.reduceAdd, Nat.reduceSub, Nat.reduceMul, Nat.reduceEqDiff, Nat.reduceBEq, Nat.reduceMod, Nat.reduceDiv, Int.reduceToNat, reduceCtorEq, Int.reduceLT, Int.reduceLE, Int.reduceGT, Int.reduceGE, Int.reduceAdd, Int.reduceSub, Int.reduceMul, Int.reduceNeg, Int.reduceEq, Int.reduceNe, Int.reduceBNe, Int.reduceBEq, Int.reduceDiv]
          refine finTup ?_
          show resOf _ _ [.cell 2 25, .tmp 3] = _
          simp only [go_sem, ↓reduceIte, Nat.reduceLT, Nat.reduceLeDiff, Nat.reduceAdd, Nat.reduceSub, Nat.reduceMul, Nat.reduceEqDiff, Nat.reduceBEq, Nat.reduceMod, Nat.reduceDiv, Int.reduceToNat, reduceCtorEq, Int.reduceLT, Int.reduceLE, Int.reduceGT, Int.reduceGE, Int.reduceAdd, Int.reduceSub, Int.reduceMul, Int.reduceNeg, Int.reduceEq, Int.reduceNe, Int.reduceBNe, Int.reduceBEq, Int.reduceDiv]
          rfl
        | true =>
          simp only [go_sem, ↓reduceIte, Nat.reduceLT, Nat.reduceLeDiff, Nat.reduceAdd, Nat.reduceSub, Nat.reduceMul, Nat.reduceEqDiff, Nat.reduceBEq, Nat.reduceMod, Nat.reduceDiv, Int.reduceToNat, reduceCtorEq, Int.reduceLT, Int.reduceLE, Int.reduceGT, Int.reduceGE, Int.reduceAdd, Int.reduceSub, Int.reduceMul, Int.reduceNeg, Int.reduceEq, Int.reduceNe, Int.reduceBNe, Int.reduceBEq, Int.reduceDiv]
          refine ex_call (by exact c3) ?_
          cases e3 with
          | false =>
            have hn := fin.2 (by simp)
            rw [if_neg hn, decide_eq_false hn, hz4]
            simp only [go_sem, ↓reduceIte, Nat.reduceLT, Nat.reduceLeDiff, Nat.reduceAdd, Nat.reduceSub, Nat.reduceMul, Nat.reduceEqDiff, Nat.reduceBEq, Nat.reduceMod, Nat.reduceDiv, Int.reduceToNat, reduceCtorEq, Int.reduceLT, Int.reduceLE, Int.reduceGT, Int.reduceGE, Int.reduceAdd, Int.reduceSub, Int.reduceMul, Int.reduceNeg, Int.reduceEq, Int.reduceNe, Int.reduceBNe, Int.reduceBEq, Int.reduceDiv, u]
            refine finTup ?_
            show resOf _ _ [.cell 2 25, .tmp 3] = _
            simp only [go_sem, ↓reduceIte, Nat.reduceLT, Nat.reduceLeDiff, Nat.reduceAdd, Nat.reduceSub, Nat.reduceMul, Nat.reduceEqDiff, Nat.reduceBEq, Nat.reduceMod, Nat.reduceDiv, Int.reduceToNat, reduceCtorEq, Int.reduceLT, Int.reduceLE, Int.reduceGT, Int.reduceGE, Int.reduceAdd, Int.reduceSub, Int.reduceMul, Int.reduceNeg, Int.reduceEq, Int.reduceNe, Int.reduceBNe, Int.reduceBEq, Int.reduceDiv]
            rfl
          | true =>
            simp only [go_sem, ↓reduceIte, Nat.reduceLT, Nat.reduceLeDiff, Nat.reduceAdd, Nat.reduceSub, Nat.reduceMul, Nat.reduceEqDiff, Nat.reduceBEq, Nat.reduceMod, Nat.reduceDiv, Int.reduceToNat, reduceCtorEq, Int.reduceLT, Int.reduceLE, Int.reduceGT, Int.reduceGE, Int.reduceAdd, Int.reduceSub, Int.reduceMul, Int.reduceNeg, Int.reduceEq, Int.reduceNe, Int.reduceBNe, Int.reduceBEq, Int.reduceDiv, u]
            refine ex_call (by exact c4) ?_
            simp only [go_sem, ↓reduceIte, Nat.reduceLT, Nat.reduceLeDiff, Nat.reduceAdd, Nat.reduceSub, Nat.reduceMul, Nat.reduceEqDiff, Nat.reduceBEq, Nat.reduceMod, Nat.reduceDiv, Int.reduceToNat, reduceCtorEq, Int.reduceLT, Int.reduceLE, Int.reduceGT, Int.reduceGE, Int.reduceAdd, Int.reduceSub, Int.reduceMul, Int.reduceNeg, Int.reduceEq, Int.reduceNe, Int.reduceBNe, Int.reduceBEq, Int.reduceDiv, u]
            refine finTup ?_
            show resOf _ _ [.cell 2 25, .tmp 3] = _
            obtain ⟨f1, rfl, rfl⟩ | ⟨f1, rfl, rfl⟩ := fin.1 rfl rfl rfl
            · rw [if_pos f1, decide_eq_true f1]
              simp only [go_sem, ↓reduceIte, Nat.reduceLT, Nat.reduceLeDiff, Nat.reduceAdd, Nat.reduceSub, Nat.reduceMul, Nat.reduceEqDiff, Nat.reduceBEq, Nat.reduceMod, Nat.reduceDiv, Int.reduceToNat, reduceCtorEq, Int.reduceLT, Int.reduceLE, Int.reduceGT, Int.reduceGE, Int.reduceAdd, Int.reduceSub, Int.reduceMul, Int.reduceNeg, Int.reduceEq, Int.reduceNe, Int.reduceBNe, Int.reduceBEq, Int.reduceDiv, u]
            · rw [if_neg f1, decide_eq_false f1]
              simp only [go_sem, ↓reduceIte, Nat.reduceLT, Nat.reduceLeDiff, Nat.reduceAdd, Nat.reduceSub, Nat.reduceMul, Nat.reduceEqDiff, Nat.reduceBEq, Nat.reduceMod, Nat.reduceDiv, Int.reduceToNat, reduceCtorEq, Int.reduceLT, Int.reduceLE, Int.reduceGT, Int.reduceGE, Int.reduceAdd, Int.reduceSub, Int.reduceMul, Int.reduceNeg, Int.reduceEq, Int.reduceNe, Int.reduceBNe, Int.reduceBEq, Int.reduceDiv, u]

/-! Which transactions may be. -/
def validTx (t : TxD) : Bool := decide (0 ≤ t.frm) && decide (t.frm < 8) && (decide (0 ≤ t.nonce) && decide (t.nonce ≤ 1099511627776)) && (decide (0 ≤ t.gas) && decide (t.gas ≤ 1073741824)) && decide (t.tip ≤ t.cap) && decide (fitsOf t.hashes t.blobs = 0) && decide (costOf t < U)
theorem fits_len {hs : List Int} {bs : List (List UInt8)} (h : fitsOf hs bs = 0) : 1 ≤ bs.length ∧ bs.length ≤ 4 ∧ hs.length = bs.length := by
  unfold fitsOf at h
  cases hb : badFit hs bs with
  | true => rw [hb] at h; cases h
  | false =>
    simp only [badFit, Bool.or_eq_false_iff, decide_eq_false_iff_not, ne_eq, Decidable.not_not] at hb
    omega
theorem cmp_le {n m : Nat} : decide (cmpOf n m > 0) = !decide (n ≤ m) := by
  unfold cmpOf
  rw [Bool.eq_iff_iff]
  simp only [decide_eq_true_eq, Bool.not_eq_true', decide_eq_false_iff_not]
  split <;> (try split) <;> omega

theorem cmp_lt {n m : Nat} : decide (cmpOf n m < 0) = decide (n < m) := by
  unfold cmpOf
  rw [Bool.eq_iff_iff]
  simp only [decide_eq_true_eq]
  split <;> (try split) <;> omega
theorem c_tx_Check (t : TxD) (h : t.ok) : Contract Try.prog 83 [t.av] (.int .i64 (if validTx t = true then 0 else 1)) := by
  refine contract_of (C := cf 50 [1, 2, 4, 5, 30, 49] (fun _ => [])) (cf_ok _ _ _) (fn := Try.f83) Try.func83 (by kernel_rfl) rfl (by kernel_rfl) (by simp [cf]) (plain1 t.plain) (by decide) (noCell (by kernel_rfl)) ?_
  have bad : ∀ {p : Prop}, (validTx t = true → p) → ¬ p → (if validTx t = true then (0 : Int) else 1) = 1 := fun h1 h2 => if_neg fun e => h2 (h1 e)
  have v1 : validTx t = true → 0 ≤ t.frm ∧ t.frm < 8 := fun e => by simp only [validTx, Bool.and_eq_true, decide_eq_true_eq] at e; omega
  have v2 : validTx t = true → 0 ≤ t.nonce ∧ t.nonce ≤ 1099511627776 := fun e => by simp only [validTx, Bool.and_eq_true, decide_eq_true_eq] at e; omega
  have v3 : validTx t = true → 0 ≤ t.gas ∧ t.gas ≤ 1073741824 := fun e => by simp only [validTx, Bool.and_eq_true, decide_eq_true_eq] at e; omega
  have v4 : validTx t = true → t.tip ≤ t.cap := fun e => by simp only [validTx, Bool.and_eq_true, decide_eq_true_eq] at e; omega
  have v5 : validTx t = true → fitsOf t.hashes t.blobs = 0 := fun e => by simp only [validTx, Bool.and_eq_true, decide_eq_true_eq] at e; exact e.1.2
  have v6 : validTx t = true → costOf t < U := fun e => by simp only [validTx, Bool.and_eq_true, decide_eq_true_eq] at e; exact e.2
  simp only [go_sem, ↓reduceIte, Nat.reduceLT, Nat.reduceLeDiff, Nat.reduceAdd, Nat.reduceSub, Nat.reduceMul, Nat.reduceEqDiff, Nat.reduceBEq, Nat.reduceMod, Nat.reduceDiv, Int.reduceToNat, reduceCtorEq, Int.reduceLT, Int.reduceLE, Int.reduceGT, Int.reduceGE, Int.reduceAdd, Int.reduceSub, Int.reduceMul, Int.reduceNeg, Int.reduceEq, Int.reduceNe, Int.reduceBNe, Int.reduceBEq, Int.reduceDiv, TxD.av, TxD.cells, ints, strs, List.length_map]
  refine ex_joinB 5 (decide (t.frm < 0) || decide (t.frm ≥ 8)) ?_ ?_
  · repeat' (first | (refine ex_split (fun h => ?_) (fun h => ?_)) | (with_reducible refine And.intro (by omega) ?_) |
      (simp only [go_sem, ↓reduceIte, Nat.reduceLT, Nat.reduceLeDiff, Nat.reduceAdd, Nat.reduceSub, Nat.reduceMul, Nat.reduceEqDiff, Nat.reduceBEq, Nat.reduceMod, Nat.reduceDiv, Int.reduceToNat, reduceCtorEq, Int.reduceLT, Int.reduceLE, Int.reduceGT, Int.reduceGE, Int.reduceAdd, Int.reduceSub, Int.reduceMul, Int.reduceNeg, Int.reduceEq, Int.reduceNe, Int.reduceBNe, Int.reduceBEq, Int.reduceDiv]))
    all_goals (try simp only [ASt.mk.injEq, List.cons.injEq, Prod.mk.injEq, AV.bool.injEq, true_and, and_true, eq_self])
    all_goals first | (simp_all; done) | (simp_all; omega) | (rw [Bool.eq_iff_iff]; simp only [List.length_map, Bool.or_eq_true, Bool.and_eq_true, Bool.not_eq_true', Bool.not_eq_false', decide_eq_true_eq, decide_eq_false_iff_not, bne_iff_ne, beq_iff_eq, ne_eq, true_iff, iff_true, false_iff, iff_false, Bool.false_eq_true, not_false_eq_true, not_true_eq_false] at *; omega)
  simp only [go_sem, ↓reduceIte, Nat.reduceLT, Nat.reduceLeDiff, Nat.reduceAdd, Nat.reduceSub, Nat.reduceMul, Nat.reduceEqDiff, Nat.reduceBEq, Nat.reduceMod, Nat.reduceDiv, Int.reduceToNat, reduceCtorEq, Int.reduceLT, Int.reduceLE, Int.reduceGT, Int.reduceGE, Int.reduceAdd, Int.reduceSub, Int.reduceMul, Int.reduceNeg, Int.reduceEq, Int.reduceNe, Int.reduceBNe, Int.reduceBEq, Int.reduceDiv]
  refine ex_br (fun b1 => ?_) (fun b1 => ?_)
  · rw [bad v1 (by simp at b1; omega)]
    simp only [go_sem, ↓reduceIte, Nat.reduceLT, Nat.reduceLeDiff, Nat.reduceAdd, Nat.reduceSub, Nat.reduceMul, Nat.reduceEqDiff, Nat.reduceBEq, Nat.reduceMod, Nat.reduceDiv, Int.reduceToNat, reduceCtorEq, Int.reduceLT, Int.reduceLE, Int.reduceGT, Int.reduceGE, Int.reduceAdd, Int.reduceSub, Int.reduceMul, Int.reduceNeg, Int.reduceEq, Int.reduceNe, Int.reduceBNe, Int.reduceBEq, Int.reduceDiv, b1]
    refine finOne ?_ (fun _ e => by cases e)
    show resOf _ _ [.tmp 2] = _
    simp only [go_sem, ↓reduceIte, Nat.reduceLT, Nat.reduceLeDiff, Nat.reduceAdd, Nat.reduceSub, Nat.reduceMul, Nat.reduceEqDiff, Nat.reduceBEq, Nat.reduceMod, Nat.reduceDiv, Int.reduceToNat, reduceCtorEq, Int.reduceLT, Int.reduceLE, Int.reduceGT, Int.reduceGE, Int.reduceAdd, Int.reduceSub, Int.reduceMul, Int.reduceNeg, Int.reduceEq, Int.reduceNe, Int.reduceBNe, Int.reduceBEq, Int.reduceDiv]
  · simp only [go_sem, ↓reduceIte, Nat.reduceLT, Nat.reduceLeDiff, Nat.reduceAdd, Nat.reduceSub, Nat.reduceMul, Nat.reduceEqDiff, Nat.reduceBEq, Nat.reduceMod, Nat.reduceDiv, Int.reduceToNat, reduceCtorEq, Int.reduceLT, Int.reduceLE, Int.reduceGT, Int.reduceGE, Int.reduceAdd, Int.reduceSub, Int.reduceMul, Int.reduceNeg, Int.reduceEq, Int.reduceNe, Int.reduceBNe, Int.reduceBEq, Int.reduceDiv]
    refine ex_joinB 5 (decide (t.nonce < 0) || decide (t.nonce > 1099511627776)) ?_ ?_
    · repeat' (first | (refine ex_split (fun h => ?_) (fun h => ?_)) | (with_reducible refine And.intro (by omega) ?_) |
        (simp only [go_sem, ↓reduceIte, Nat.reduceLT, Nat.reduceLeDiff, Nat.reduceAdd, Nat.reduceSub, Nat.reduceMul, Nat.reduceEqDiff, Nat.reduceBEq, Nat.reduceMod, Nat.reduceDiv, Int.reduceToNat, reduceCtorEq, Int.reduceLT, Int.reduceLE, Int.reduceGT, Int.reduceGE, Int.reduceAdd, Int.reduceSub, Int.reduceMul, Int.reduceNeg, Int.reduceEq, Int.reduceNe, Int.reduceBNe, Int.reduceBEq, Int.reduceDiv]))
      all_goals (try simp only [ASt.mk.injEq, List.cons.injEq, Prod.mk.injEq, AV.bool.injEq, true_and, and_true, eq_self])
      all_goals first | (simp_all; done) | (simp_all; omega) | (rw [Bool.eq_iff_iff]; simp only [List.length_map, Bool.or_eq_true, Bool.and_eq_true, Bool.not_eq_true', Bool.not_eq_false', decide_eq_true_eq, decide_eq_false_iff_not, bne_iff_ne, beq_iff_eq, ne_eq, true_iff, iff_true, false_iff, iff_false, Bool.false_eq_true, not_false_eq_true, not_true_eq_false] at *; omega)
    simp only [go_sem, ↓reduceIte, Nat.reduceLT, Nat.reduceLeDiff, Nat.reduceAdd, Nat.reduceSub, Nat.reduceMul, Nat.reduceEqDiff, Nat.reduceBEq, Nat.reduceMod, Nat.reduceDiv, Int.reduceToNat, reduceCtorEq, Int.reduceLT, Int.reduceLE, Int.reduceGT, Int.reduceGE, Int.reduceAdd, Int.reduceSub, Int.reduceMul, Int.reduceNeg, Int.reduceEq, Int.reduceNe, Int.reduceBNe, Int.reduceBEq, Int.reduceDiv]
    refine ex_br (fun b2 => ?_) (fun b2 => ?_)
    · rw [bad v2 (by simp at b2; omega)]
      simp only [go_sem, ↓reduceIte, Nat.reduceLT, Nat.reduceLeDiff, Nat.reduceAdd, Nat.reduceSub, Nat.reduceMul, Nat.reduceEqDiff, Nat.reduceBEq, Nat.reduceMod, Nat.reduceDiv, Int.reduceToNat, reduceCtorEq, Int.reduceLT, Int.reduceLE, Int.reduceGT, Int.reduceGE, Int.reduceAdd, Int.reduceSub, Int.reduceMul, Int.reduceNeg, Int.reduceEq, Int.reduceNe, Int.reduceBNe, Int.reduceBEq, Int.reduceDiv, b2]
      refine finOne ?_ (fun _ e => by cases e)
      show resOf _ _ [.tmp 2] = _
      simp only [go_sem, ↓reduceIte, Nat.reduceLT, Nat.reduceLeDiff, Nat.reduceAdd, Nat.reduceSub, Nat.reduceMul, Nat.reduceEqDiff, Nat.reduceBEq, Nat.reduceMod, Nat.reduceDiv, Int.reduceToNat, reduceCtorEq, Int.reduceLT, Int.reduceLE, Int.reduceGT, Int.reduceGE, Int.reduceAdd, Int.reduceSub, Int.reduceMul, Int.reduceNeg, Int.reduceEq, Int.reduceNe, Int.reduceBNe, Int.reduceBEq, Int.reduceDiv]
    · simp only [go_sem, ↓reduceIte, Nat.reduceLT, Nat.reduceLeDiff, Nat.reduceAdd, Nat.reduceSub, Nat.reduceMul, Nat.reduceEqDiff, Nat.reduceBEq, Nat.reduceMod, Nat.reduceDiv, Int.reduceToNat, reduceCtorEq, Int.reduceLT, Int.reduceLE, Int.reduceGT, Int.reduceGE, Int.reduceAdd, Int.reduceSub, Int.reduceMul, Int.reduceNeg, Int.reduceEq, Int.reduceNe, Int.reduceBNe, Int.reduceBEq, Int.reduceDiv]
      refine ex_joinB 5 (decide (t.gas < 0) || decide (t.gas > 1073741824)) ?_ ?_
      · repeat' (first | (refine ex_split (fun h => ?_) (fun h => ?_)) | (with_reducible refine And.intro (by omega) ?_) |
          (simp only [go_sem, ↓reduceIte, Nat.reduceLT, Nat.reduceLeDiff, Nat.reduceAdd, Nat.reduceSub, Nat.reduceMul, Nat.reduceEqDiff, Nat.reduceBEq, Nat.reduceMod, Nat.reduceDiv, Int.reduceToNat, reduceCtorEq, Int.reduceLT, Int.reduceLE, Int.reduceGT, Int.reduceGE, Int.reduceAdd, Int.reduceSub, Int.reduceMul, Int.reduceNeg, Int.reduceEq, Int.reduceNe, Int.reduceBNe, Int.reduceBEq, Int.reduceDiv]))
        all_goals (try simp only [ASt.mk.injEq, List.cons.injEq, Prod.mk.injEq, AV.bool.injEq, true_and, and_true, eq_self])
        all_goals first | (simp_all; done) | (simp_all; omega) | (rw [Bool.eq_iff_iff]; simp only [List.length_map, Bool.or_eq_true, Bool.and_eq_true, Bool.not_eq_true', Bool.not_eq_false', decide_eq_true_eq, decide_eq_false_iff_not, bne_iff_ne, beq_iff_eq, ne_eq, true_iff, iff_true, false_iff, iff_false, Bool.false_eq_true, not_false_eq_true, not_true_eq_false] at *; omega)
      simp only [go_sem, ↓reduceIte, Nat.reduceLT, Nat.reduceLeDiff, Nat.reduceAdd, Nat.reduceSub, Nat.reduceMul, Nat.reduceEqDiff, Nat.reduceBEq, Nat.reduceMod, Nat.reduceDiv, Int.reduceToNat, reduceCtorEq, Int.reduceLT, Int.reduceLE, Int.reduceGT, Int.reduceGE, Int.reduceAdd, Int.reduceSub, Int.reduceMul, Int.reduceNeg, Int.reduceEq, Int.reduceNe, Int.reduceBNe, Int.reduceBEq, Int.reduceDiv]
      refine ex_br (fun b3 => ?_) (fun b3 => ?_)
      · rw [bad v3 (by simp at b3; omega)]
        simp only [go_sem, ↓reduceIte, Nat.reduceLT, Nat.reduceLeDiff, Nat.reduceAdd, Nat.reduceSub, Nat.reduceMul, Nat.reduceEqDiff, Nat.reduceBEq, Nat.reduceMod, Nat.reduceDiv, Int.reduceToNat, reduceCtorEq, Int.reduceLT, Int.reduceLE, Int.reduceGT, Int.reduceGE, Int.reduceAdd, Int.reduceSub, Int.reduceMul, Int.reduceNeg, Int.reduceEq, Int.reduceNe, Int.reduceBNe, Int.reduceBEq, Int.reduceDiv, b3]
        refine finOne ?_ (fun _ e => by cases e)
        show resOf _ _ [.tmp 2] = _
        simp only [go_sem, ↓reduceIte, Nat.reduceLT, Nat.reduceLeDiff, Nat.reduceAdd, Nat.reduceSub, Nat.reduceMul, Nat.reduceEqDiff, Nat.reduceBEq, Nat.reduceMod, Nat.reduceDiv, Int.reduceToNat, reduceCtorEq, Int.reduceLT, Int.reduceLE, Int.reduceGT, Int.reduceGE, Int.reduceAdd, Int.reduceSub, Int.reduceMul, Int.reduceNeg, Int.reduceEq, Int.reduceNe, Int.reduceBNe, Int.reduceBEq, Int.reduceDiv]
      · simp only [go_sem, ↓reduceIte, Nat.reduceLT, Nat.reduceLeDiff, Nat.reduceAdd, Nat.reduceSub, Nat.reduceMul, Nat.reduceEqDiff, Nat.reduceBEq, Nat.reduceMod, Nat.reduceDiv, Int.reduceToNat, reduceCtorEq, Int.reduceLT, Int.reduceLE, Int.reduceGT, Int.reduceGE, Int.reduceAdd, Int.reduceSub, Int.reduceMul, Int.reduceNeg, Int.reduceEq, Int.reduceNe, Int.reduceBNe, Int.reduceBEq, Int.reduceDiv]
        refine ex_call (by exact c_u256_Cmp t.tip t.cap h.tip h.cap) ?_
        simp only [go_sem, ↓reduceIte, Nat.reduceLT, Nat.reduceLeDiff, Nat.reduceAdd, Nat.reduceSub, Nat.reduceMul, Nat.reduceEqDiff, Nat.reduceBEq, Nat.reduceMod, Nat.reduceDiv, Int.reduceToNat, reduceCtorEq, Int.reduceLT, Int.reduceLE, Int.reduceGT, Int.reduceGE, Int.reduceAdd, Int.reduceSub, Int.reduceMul, Int.reduceNeg, Int.reduceEq, Int.reduceNe, Int.reduceBNe, Int.reduceBEq, Int.reduceDiv, cmp_le]
        refine ex_br (fun b4 => ?_) (fun b4 => ?_)
        · rw [bad v4 (by simp at b4; omega)]
          simp only [go_sem, ↓reduceIte, Nat.reduceLT, Nat.reduceLeDiff, Nat.reduceAdd, Nat.reduceSub, Nat.reduceMul, Nat.reduceEqDiff, Nat.reduceBEq, Nat.reduceMod, Nat.reduceDiv, Int.reduceToNat, reduceCtorEq, Int.reduceLT, Int.reduceLE, Int.reduceGT, Int.reduceGE, Int.reduceAdd, Int.reduceSub, Int.reduceMul, Int.reduceNeg, Int.reduceEq, Int.reduceNe, Int.reduceBNe, Int.reduceBEq, Int.reduceDiv, b4]
          refine finOne ?_ (fun _ e => by cases e)
          show resOf _ _ [.tmp 2] = _
          simp only [go_sem, ↓reduceIte, Nat.reduceLT, Nat.reduceLeDiff, Nat.reduceAdd, Nat.reduceSub, Nat.reduceMul, Nat.reduceEqDiff, Nat.reduceBEq, Nat.reduceMod, Nat.reduceDiv, Int.reduceToNat, reduceCtorEq, Int.reduceLT, Int.reduceLE, Int.reduceGT, Int.reduceGE, Int.reduceAdd, Int.reduceSub, Int.reduceMul, Int.reduceNeg, Int.reduceEq, Int.reduceNe, Int.reduceBNe, Int.reduceBEq, Int.reduceDiv]
        · simp only [go_sem, ↓reduceIte, Nat.reduceLT, Nat.reduceLeDiff, Nat.reduceAdd, Nat.reduceSub, Nat.reduceMul, Nat.reduceEqDiff, Nat.reduceBEq, Nat.reduceMod, Nat.reduceDiv, Int.reduceToNat, reduceCtorEq, Int.reduceLT, Int.reduceLE, Int.reduceGT, Int.reduceGE, Int.reduceAdd, Int.reduceSub, Int.reduceMul, Int.reduceNeg, Int.reduceEq, Int.reduceNe, Int.reduceBNe, Int.reduceBEq, Int.reduceDiv]
          refine ex_call (by exact c_blob_Fits t.hashes t.blobs h.blob) ?_
          simp only [go_sem, ↓reduceIte, Nat.reduceLT, Nat.reduceLeDiff, Nat.reduceAdd, Nat.reduceSub, Nat.reduceMul, Nat.reduceEqDiff, Nat.reduceBEq, Nat.reduceMod, Nat.reduceDiv, Int.reduceToNat, reduceCtorEq, Int.reduceLT, Int.reduceLE, Int.reduceGT, Int.reduceGE, Int.reduceAdd, Int.reduceSub, Int.reduceMul, Int.reduceNeg, Int.reduceEq, Int.reduceNe, Int.reduceBNe, Int.reduceBEq, Int.reduceDiv]
          refine ex_br (fun b5 => ?_) (fun b5 => ?_)
          · rw [bad v5 (by simpa using b5)]
            simp only [go_sem, ↓reduceIte, Nat.reduceLT, Nat.reduceLeDiff, Nat.reduceAdd, Nat.reduceSub, Nat.reduceMul, Nat.reduceEqDiff, Nat.reduceBEq, Nat.reduceMod, Nat.reduceDiv, Int.reduceToNat, reduceCtorEq, Int.reduceLT, Int.reduceLE, Int.reduceGT, Int.reduceGE, Int.reduceAdd, Int.reduceSub, Int.reduceMul, Int.reduceNeg, Int.reduceEq, Int.reduceNe, Int.reduceBNe, Int.reduceBEq, Int.reduceDiv, b5]
            refine finOne ?_ (fun _ e => by cases e)
            show resOf _ _ [.tmp 2] = _
            simp only [go_sem, ↓reduceIte, Nat.reduceLT, Nat.reduceLeDiff, Nat.reduceAdd, Nat.reduceSub, Nat.reduceMul, Nat.reduceEqDiff, Nat.reduceBEq, Nat.reduceMod, Nat.reduceDiv, Int.reduceToNat, reduceCtorEq, Int.reduceLT, Int.reduceLE, Int.reduceGT, Int.reduceGE, Int.reduceAdd, Int.reduceSub, Int.reduceMul, Int.reduceNeg, Int.reduceEq, Int.reduceNe, Int.reduceBNe, Int.reduceBEq, Int.reduceDiv]
          · have hf : fitsOf t.hashes t.blobs = 0 := by simpa using b5
            have hl := fits_len hf
            have hgas : 0 ≤ t.gas ∧ t.gas ≤ 1073741824 := by simp at b3; omega
            simp only [go_sem, ↓reduceIte, Nat.reduceLT, Nat.reduceLeDiff, Nat.reduceAdd, Nat.reduceSub, Nat.reduceMul, Nat.reduceEqDiff, Nat.reduceBEq, Nat.reduceMod, Nat.reduceDiv, Int.reduceToNat, reduceCtorEq, Int.reduceLT, Int.reduceLE, Int.reduceGT, Int.reduceGE, Int.reduceAdd, Int.reduceSub, Int.reduceMul, Int.reduceNeg, Int.reduceEq, Int.reduceNe, Int.reduceBNe, Int.reduceBEq, Int.reduceDiv]
            refine ex_call (by exact c_tx_cost t h hgas ⟨hl.1, hl.2.1⟩) ?_
            simp only [go_sem, ↓reduceIte, Nat.reduceLT, Nat.reduceLeDiff, Nat.reduceAdd, Nat.reduceSub, Nat.reduceMul, Nat.reduceEqDiff, Nat.reduceBEq, Nat.reduceMod, Nat.reduceDiv, Int.reduceToNat, reduceCtorEq, Int.reduceLT, Int.reduceLE, Int.reduceGT, Int.reduceGE, Int.reduceAdd, Int.reduceSub, Int.reduceMul, Int.reduceNeg, Int.reduceEq, Int.reduceNe, Int.reduceBNe, Int.reduceBEq, Int.reduceDiv, u]
            refine ex_br (fun b6 => ?_) (fun b6 => ?_)
            · rw [bad v6 (by simpa using b6)]
              simp only [go_sem, ↓reduceIte, Nat.reduceLT, Nat.reduceLeDiff, Nat.reduceAdd, Nat.reduceSub, Nat.reduceMul, Nat.reduceEqDiff, Nat.reduceBEq, Nat.reduceMod, Nat.reduceDiv, Int.reduceToNat, reduceCtorEq, Int.reduceLT, Int.reduceLE, Int.reduceGT, Int.reduceGE, Int.reduceAdd, Int.reduceSub, Int.reduceMul, Int.reduceNeg, Int.reduceEq, Int.reduceNe, Int.reduceBNe, Int.reduceBEq, Int.reduceDiv, b6]
              refine finOne ?_ (fun _ e => by cases e)
              show resOf _ _ [.tmp 2] = _
              simp only [go_sem, ↓reduceIte, Nat.reduceLT, Nat.reduceLeDiff, Nat.reduceAdd, Nat.reduceSub, Nat.reduceMul, Nat.reduceEqDiff, Nat.reduceBEq, Nat.reduceMod, Nat.reduceDiv, Int.reduceToNat, reduceCtorEq, Int.reduceLT, Int.reduceLE, Int.reduceGT, Int.reduceGE, Int.reduceAdd, Int.reduceSub, Int.reduceMul, Int.reduceNeg, Int.reduceEq, Int.reduceNe, Int.reduceBNe, Int.reduceBEq, Int.reduceDiv]
            · have hv : validTx t = true := by
                simp only [validTx, Bool.and_eq_true, decide_eq_true_eq]
                simp at b1 b2 b4 b6
                refine ⟨⟨⟨⟨⟨⟨?_, ?_⟩, ?_, ?_⟩, ?_, ?_⟩, ?_⟩, hf⟩, ?_⟩ <;> omega
              rw [if_pos hv]
              simp only [go_sem, ↓reduceIte, Nat.reduceLT, Nat.reduceLeDiff, Nat.reduceAdd, Nat.reduceSub, Nat.reduceMul, Nat.reduceEqDiff, Nat.reduceBEq, Nat.reduceMod, Nat.reduceDiv, Int.reduceToNat, reduceCtorEq, Int.reduceLT, Int.reduceLE, Int.reduceGT, Int.reduceGE, Int.reduceAdd, Int.reduceSub, Int.reduceMul, Int.reduceNeg, Int.reduceEq, Int.reduceNe, Int.reduceBNe, Int.reduceBEq, Int.reduceDiv]
              refine finOne ?_ (fun _ e => by cases e)
              show resOf _ _ [.tmp 2] = _
              simp only [go_sem, ↓reduceIte, Nat.reduceLT, Nat.reduceLeDiff, Nat.reduceAdd, Nat.reduceSub, Nat.reduceMul, Nat.reduceEqDiff, Nat.reduceBEq, Nat.reduceMod, Nat.reduceDiv, Int.reduceToNat, reduceCtorEq, Int.reduceLT, Int.reduceLE, Int.reduceGT, Int.reduceGE, Int.reduceAdd, Int.reduceSub, Int.reduceMul, Int.reduceNeg, Int.reduceEq, Int.reduceNe, Int.reduceBNe, Int.reduceBEq, Int.reduceDiv]
end Go.Proofs.Ytpepfhbfooeoeaa.VA
end
section
/- Transactions among the data that a law is asked with. -/
namespace Go.Proofs.Ytpepfhbfooeoeaa.VA
set_option linter.unusedVariables false
set_option linter.unusedSimpArgs false

theorem wf_i64 {n : Int} (h : (Lit.int .i64 n).wf = true) : -9223372036854775808 ≤ n ∧ n ≤ 9223372036854775807 := by
  simp only [Lit.wf, IntKind.min, IntKind.max, IntKind.signed, IntKind.bits, Bool.and_eq_true, decide_eq_true_eq, if_true, Bool.false_eq_true, if_false] at h
  omega
theorem wf_u64 {n : Int} (h : (Lit.int .u64 n).wf = true) : 0 ≤ n ∧ n < 18446744073709551616 := by
  simp only [Lit.wf, IntKind.min, IntKind.max, IntKind.signed, IntKind.bits, Bool.and_eq_true, decide_eq_true_eq, if_true, Bool.false_eq_true, if_false] at h
  omega
theorem ty_u {x : AV} (h : Ty ti 25 x) : ∃ n : Nat, x = u n ∧ n < U := by
  obtain ⟨xs, rfl, hn, hall⟩ := ty_arr (n := 4) (e := 23) (esz := 1) (by rw [ti25]) h
  match xs, hn with
  | [x0, x1, x2, x3], _ =>
    obtain ⟨a, rfl, ha⟩ := ty_int (k := .u64) (by rw [ti23]) (hall x0 (by simp))
    obtain ⟨b, rfl, hb⟩ := ty_int (k := .u64) (by rw [ti23]) (hall x1 (by simp))
    obtain ⟨c, rfl, hc⟩ := ty_int (k := .u64) (by rw [ti23]) (hall x2 (by simp))
    obtain ⟨d, rfl, hd⟩ := ty_int (k := .u64) (by rw [ti23]) (hall x3 (by simp))
    have ha := wf_u64 ha
    have hb := wf_u64 hb
    have hc := wf_u64 hc
    have hd := wf_u64 hd
    obtain ⟨a, rfl⟩ := Int.eq_ofNat_of_zero_le ha.1
    obtain ⟨b, rfl⟩ := Int.eq_ofNat_of_zero_le hb.1
    obtain ⟨c, rfl⟩ := Int.eq_ofNat_of_zero_le hc.1
    obtain ⟨d, rfl⟩ := Int.eq_ofNat_of_zero_le hd.1
    refine ⟨a + 18446744073709551616 * b + 340282366920938463463374607431768211456 * c + 6277101735386680763835789423207666416102355444464034512896 * d, ?_, ?_⟩
    · rw [u_eq (a := a) (b := b) (c := c) (d := d) (by omega) (by omega) (by omega) (by omega) rfl]
      rfl
    · unfold U; omega
theorem ty_tx {x : AV} (h : Ty ti 29 x) : ∃ t : TxD, x = t.av ∧ t.ok := by
  obtain ⟨xs, rfl, hn, hall⟩ := ty_struct (fs := [(0, 1, 3), (1, 1, 3), (2, 4, 25), (6, 4, 25), (10, 4, 25), (14, 4, 25), (18, 1, 3), (19, 1, 26), (20, 1, 27)]) (by rw [ti29]) h
  match xs, hn with
  | [x0, x1, x2, x3, x4, x5, x6, x7, x8], _ =>
    obtain ⟨f, rfl, h0⟩ := ty_int (k := .i64) (by rw [ti3]) (hall 0 _ _ _ x0 rfl rfl)
    obtain ⟨n, rfl, h1⟩ := ty_int (k := .i64) (by rw [ti3]) (hall 1 _ _ _ x1 rfl rfl)
    obtain ⟨p, rfl, h2⟩ := ty_u (hall 2 _ _ _ x2 rfl rfl)
    obtain ⟨c, rfl, h3⟩ := ty_u (hall 3 _ _ _ x3 rfl rfl)
    obtain ⟨b, rfl, h4⟩ := ty_u (hall 4 _ _ _ x4 rfl rfl)
    obtain ⟨v, rfl, h5⟩ := ty_u (hall 5 _ _ _ x5 rfl rfl)
    obtain ⟨g, rfl, h6⟩ := ty_int (k := .i64) (by rw [ti3]) (hall 6 _ _ _ x6 rfl rfl)
    obtain ⟨hs, rfl, a7, b7⟩ := ty_ints (e := 23) (eb := 8) (k := .u64) (by rw [ti26]) (by rw [ti23]) (hall 7 _ _ _ x7 rfl rfl)
    obtain ⟨bs, rfl, a8, b8⟩ := ty_strs (e := 9) (eb := 16) (by rw [ti27]) (by rw [ti9]) (hall 8 _ _ _ x8 rfl rfl)
    exact ⟨⟨f, n, p, c, b, v, g, hs, bs⟩, rfl, wf_i64 h0, wf_i64 h1, wf_i64 h6, h2, h3, h4, h5, a7, a8, b8⟩
end Go.Proofs.Ytpepfhbfooeoeaa.VA
end
section
/- Rows of transactions among the data that a law is asked with. -/
namespace Go.Proofs.Ytpepfhbfooeoeaa.VA
set_option linter.unusedVariables false
set_option linter.unusedSimpArgs false

theorem ty_txs {x : AV} (h : Ty ti 46 x) : ∃ l : List TxD, x = .sl false 21 (l.map TxD.av) ∧ l.length * 200 ≤ reachBytes ∧ ∀ a ∈ l, a.ok := by
  obtain ⟨es, rfl, hs, hall⟩ := ty_slice (e := 29) (esz := 21) (eb := 200) (by rw [ti46]) h
  obtain ⟨l, rfl, hl⟩ := ty_map (f := TxD.av) (fun y hy => ty_tx hy) es hall
  exact ⟨l, rfl, by simpa using hs, hl⟩
theorem plain_txs (l : List TxD) : Plain (.sl false 21 (l.map TxD.av)) := .sl 21 _ fun c hc => by
  obtain ⟨s, _, rfl⟩ := List.mem_map.1 hc
  exact s.plain
end Go.Proofs.Ytpepfhbfooeoeaa.VA
end
section
/- Which transactions may be, by the page; their costs; pairs. -/
namespace Go.Proofs.Ytpepfhbfooeoeaa.VA
set_option maxRecDepth 10000
set_option linter.unusedSimpArgs false
set_option linter.unusedVariables false
set_option maxHeartbeats 8000000

theorem c_ref7_Tx (t : TxD) (h : t.ok) : Contract Try.prog 33 [t.av] (.bool (validTx t)) := by
  refine contract_of (C := cf 43 [1, 2, 4, 36] (fun _ => [])) (cf_ok _ _ _) (fn := Try.f33) Try.func33 (by kernel_rfl) rfl (by kernel_rfl) (by simp [cf]) (plain1 t.plain) (by decide) (noCell (by kernel_rfl)) ?_
  have bad : ∀ {p : Prop}, (validTx t = true → p) → ¬ p → validTx t = false := fun h1 h2 => by
    cases hv : validTx t with
    | false => rfl
    | true => exact (h2 (h1 hv)).elim
  have v1 : validTx t = true → 0 ≤ t.frm ∧ t.frm < 8 := fun e => by simp only [validTx, Bool.and_eq_true, decide_eq_true_eq] at e; omega
  have v2 : validTx t = true → 0 ≤ t.nonce ∧ t.nonce ≤ 1099511627776 := fun e => by simp only [validTx, Bool.and_eq_true, decide_eq_true_eq] at e; omega
  have v3 : validTx t = true → 0 ≤ t.gas ∧ t.gas ≤ 1073741824 := fun e => by simp only [validTx, Bool.and_eq_true, decide_eq_true_eq] at e; omega
  have v4 : validTx t = true → t.tip ≤ t.cap := fun e => by simp only [validTx, Bool.and_eq_true, decide_eq_true_eq] at e; omega
  have v5 : validTx t = true → fitsOf t.hashes t.blobs = 0 := fun e => by simp only [validTx, Bool.and_eq_true, decide_eq_true_eq] at e; exact e.1.2
  have v6 : validTx t = true → costOf t < U := fun e => by simp only [validTx, Bool.and_eq_true, decide_eq_true_eq] at e; exact e.2
  have fin : ∀ {C : Cfg} {σ : ASt}, validTx t = false → resOf C σ Try.f33.results.toList = some (.bool false) → BodyPost C Try.f33.results.toList (.bool (validTx t)) .ret σ := fun hv hr => by
    rw [hv]
    exact finOne hr (fun _ e => by cases e)
  simp only [go_sem, seval, TxD.av, TxD.cells, ints, strs, List.length_map]
  refine ex_call (c_Num t.frm 7) ?_
  cases b1 : (decide (0 ≤ t.frm) && decide (t.frm ≤ 7))
  · simp only [go_sem, seval]
    refine fin (bad v1 (by simp at b1; omega)) ?_
    show resOf _ _ [.tmp 2] = _
    simp only [go_sem, seval]
  simp only [go_sem, seval]
  refine ex_call (c_Num t.nonce 1099511627776) ?_
  cases b2 : (decide (0 ≤ t.nonce) && decide (t.nonce ≤ 1099511627776))
  · simp only [go_sem, seval]
    refine fin (bad v2 (by simp at b2; omega)) ?_
    show resOf _ _ [.tmp 2] = _
    simp only [go_sem, seval]
  simp only [go_sem, seval]
  refine ex_call (c_Num t.gas 1073741824) ?_
  cases b3 : (decide (0 ≤ t.gas) && decide (t.gas ≤ 1073741824))
  · simp only [go_sem, seval]
    refine fin (bad v3 (by simp at b3; omega)) ?_
    show resOf _ _ [.tmp 2] = _
    simp only [go_sem, seval]
  simp only [go_sem, seval]
  refine ex_call (by exact c_ref1_Cmp t.tip t.cap h.tip h.cap) ?_
  simp only [go_sem, seval, cmp_le]
  refine ex_split (fun b4 => ?_) (fun b4 => ?_)
  case' refine_2 =>
    simp only [go_sem, seval, b4]
    refine fin (bad v4 (by simp at b4; omega)) ?_
    show resOf _ _ [.tmp 2] = _
    simp only [go_sem, seval]
  simp only [go_sem, seval]
  refine ex_call (by exact c_ref4_Fits t.hashes t.blobs h.blob) ?_
  rcases Decidable.em (fitsOf t.hashes t.blobs = 0) with b5 | b5
  case' inr =>
    have b5' : (fitsOf t.hashes t.blobs != 0) = true := by simpa using b5
    simp only [go_sem, seval, b5']
    refine fin (bad v5 b5) ?_
    show resOf _ _ [.tmp 2] = _
    simp only [go_sem, seval]
  have hl := fits_len b5
  have hgas : 0 ≤ t.gas ∧ t.gas ≤ 1073741824 := by simp at b3; omega
  simp only [go_sem, seval, b5]
  refine ex_call (by exact c_ref7_Cost t h hgas hl.2.1) ?_
  have hv : validTx t = decide (costOf t < U) := by
    rw [Bool.eq_iff_iff]
    simp only [validTx, Bool.and_eq_true, decide_eq_true_eq]
    simp at b1 b2 b4
    constructor
    · intro e; exact e.2
    · intro e; refine ⟨⟨⟨⟨⟨⟨?_, ?_⟩, ?_, ?_⟩, ?_, ?_⟩, ?_⟩, b5⟩, e⟩ <;> omega
  rw [hv]
  simp only [go_sem, seval, u]
  refine finOne ?_ (fun _ e => by cases e)
  show resOf _ _ [.tmp 2] = _
  simp only [go_sem, seval]
end Go.Proofs.Ytpepfhbfooeoeaa.VA
end
section
/- Copies of rows of marks and of texts. -/
namespace Go.Proofs.Ytpepfhbfooeoeaa.VA
set_option maxRecDepth 10000
set_option linter.unusedSimpArgs false
set_option linter.unusedVariables false
set_option maxHeartbeats 4000000

theorem c_CopyMarks (l : List Int) (hl : l.length * 8 ≤ reachBytes) : Contract Try.prog 78 [ints .u64 l] (.own false 1 (l.map (AV.int .u64))) := by
  unfold reachBytes at hl
  refine contract_of (C := cf 19 [0, 2, 3, 4, 8] (fun _ => [])) (cf_ok _ _ _) (fn := Try.f78) Try.func78 (by kernel_rfl) rfl (by kernel_rfl) (by simp [cf]) (plain1 (ints_plain _ l)) (by decide) (noCell (by kernel_rfl)) ?_
  simp only [go_sem, ↓reduceIte, Nat.reduceLT, Nat.reduceLeDiff, Nat.reduceAdd, Nat.reduceSub, Nat.reduceMul, Nat.reduceEqDiff, Nat.reduceBEq, Nat.reduceMod, Nat.reduceDiv, Int.reduceToNat, reduceCtorEq, Int.reduceLT, Int.reduceLE, Int.reduceGT, Int.reduceGE, Int.reduceAdd, Int.reduceSub, Int.reduceMul, Int.reduceNeg, Int.reduceEq, Int.reduceNe, Int.reduceBNe, Int.reduceBEq, Int.reduceDiv, ints, strs]
  refine ex_iter [0, 3, 4] (fun i : Nat => ⟨[(0, .sl false 1 (l.map (AV.int .u64))), (3, .own false 1 ((l.take i).map (AV.int .u64))), (4, .int .i64 i)], [], []⟩) (fun i => i ≤ l.length) (fun i => l.length - i) 0 ?_ ?_ ?_
  · simp only [ASt.keep, consIf, keepL, keepV, AV.isBot, List.contains_cons, List.contains_nil, Nat.reduceBEq, Bool.or_false, Bool.false_or, Bool.or_true, Bool.true_or, beq_self_eq_true, Bool.false_eq_true, ↓reduceIte, if_false, if_true]
    rfl
  · exact Nat.zero_le _
  · intro n i hi next
    simp only [go_sem, ↓reduceIte, Nat.reduceLT, Nat.reduceLeDiff, Nat.reduceAdd, Nat.reduceSub, Nat.reduceMul, Nat.reduceEqDiff, Nat.reduceBEq, Nat.reduceMod, Nat.reduceDiv, Int.reduceToNat, reduceCtorEq, Int.reduceLT, Int.reduceLE, Int.reduceGT, Int.reduceGE, Int.reduceAdd, Int.reduceSub, Int.reduceMul, Int.reduceNeg, Int.reduceEq, Int.reduceNe, Int.reduceBNe, Int.reduceBEq, Int.reduceDiv, List.length_map]
    refine ex_br (fun h => ?_) (fun h => ?_)
    · have hlt : i < l.length := by simpa using h
      obtain ⟨x, ex⟩ : ∃ x, l[i]? = some x := ⟨_, List.getElem?_eq_getElem hlt⟩
      simp only [go_sem, ↓reduceIte, Nat.reduceLT, Nat.reduceLeDiff, Nat.reduceAdd, Nat.reduceSub, Nat.reduceMul, Nat.reduceEqDiff, Nat.reduceBEq, Nat.reduceMod, Nat.reduceDiv, Int.reduceToNat, reduceCtorEq, Int.reduceLT, Int.reduceLE, Int.reduceGT, Int.reduceGE, Int.reduceAdd, Int.reduceSub, Int.reduceMul, Int.reduceNeg, Int.reduceEq, Int.reduceNe, Int.reduceBNe, Int.reduceBEq, Int.reduceDiv, List.length_map, List.getElem?_map, ex, Int.toNat_natCast]
      repeat with_reducible refine And.intro (by first | omega | (simp only [List.length_cons, List.length_append, List.length_nil, List.length_map, List.length_take, List.length_drop, List.length_set]; omega)) ?_
      refine next (i + 1) _ (by omega) (by omega) ?_
      rw [← wi64_nat i (by omega), ← take_snoc _ ex]
      simp only [ASt.keep, consIf, keepL, keepV, AV.isBot, List.contains_cons, List.contains_nil, Nat.reduceBEq, Bool.or_false, Bool.false_or, Bool.or_true, Bool.true_or, beq_self_eq_true, Bool.false_eq_true, ↓reduceIte, if_false, if_true]
    · have hge : i = l.length := by simp at h; omega
      subst hge
      simp only [go_sem, ↓reduceIte, Nat.reduceLT, Nat.reduceLeDiff, Nat.reduceAdd, Nat.reduceSub, Nat.reduceMul, Nat.reduceEqDiff, Nat.reduceBEq, Nat.reduceMod, Nat.reduceDiv, Int.reduceToNat, reduceCtorEq, Int.reduceLT, Int.reduceLE, Int.reduceGT, Int.reduceGE, Int.reduceAdd, Int.reduceSub, Int.reduceMul, Int.reduceNeg, Int.reduceEq, Int.reduceNe, Int.reduceBNe, Int.reduceBEq, Int.reduceDiv, List.take_length]
      refine finOne ?_ (fun _ e => by cases e)
      show resOf _ _ [.tmp 2] = _
      simp only [go_sem, ↓reduceIte, Nat.reduceLT, Nat.reduceLeDiff, Nat.reduceAdd, Nat.reduceSub, Nat.reduceMul, Nat.reduceEqDiff, Nat.reduceBEq, Nat.reduceMod, Nat.reduceDiv, Int.reduceToNat, reduceCtorEq, Int.reduceLT, Int.reduceLE, Int.reduceGT, Int.reduceGE, Int.reduceAdd, Int.reduceSub, Int.reduceMul, Int.reduceNeg, Int.reduceEq, Int.reduceNe, Int.reduceBNe, Int.reduceBEq, Int.reduceDiv]

theorem c_CopyStrings (l : List (List UInt8)) (hl : l.length * 16 ≤ reachBytes) : Contract Try.prog 79 [strs l] (.own false 1 (l.map AV.str)) := by
  unfold reachBytes at hl
  refine contract_of (C := cf 19 [0, 2, 3, 4, 8] (fun _ => [])) (cf_ok _ _ _) (fn := Try.f79) Try.func79 (by kernel_rfl) rfl (by kernel_rfl) (by simp [cf]) (plain1 (strs_plain l)) (by decide) (noCell (by kernel_rfl)) ?_
  simp only [go_sem, ↓reduceIte, Nat.reduceLT, Nat.reduceLeDiff, Nat.reduceAdd, Nat.reduceSub, Nat.reduceMul, Nat.reduceEqDiff, Nat.reduceBEq, Nat.reduceMod, Nat.reduceDiv, Int.reduceToNat, reduceCtorEq, Int.reduceLT, Int.reduceLE, Int.reduceGT, Int.reduceGE, Int.reduceAdd, Int.reduceSub, Int.reduceMul, Int.reduceNeg, Int.reduceEq, Int.reduceNe, Int.reduceBNe, Int.reduceBEq, Int.reduceDiv, ints, strs]
  refine ex_iter [0, 3, 4] (fun i : Nat => ⟨[(0, .sl false 1 (l.map AV.str)), (3, .own false 1 ((l.take i).map AV.str)), (4, .int .i64 i)], [], []⟩) (fun i => i ≤ l.length) (fun i => l.length - i) 0 ?_ ?_ ?_
  · simp only [ASt.keep, consIf, keepL, keepV, AV.isBot, List.contains_cons, List.contains_nil, Nat.reduceBEq, Bool.or_false, Bool.false_or, Bool.or_true, Bool.true_or, beq_self_eq_true, Bool.false_eq_true, ↓reduceIte, if_false, if_true]
    rfl
  · exact Nat.zero_le _
  · intro n i hi next
    simp only [go_sem, ↓reduceIte, Nat.reduceLT, Nat.reduceLeDiff, Nat.reduceAdd, Nat.reduceSub, Nat.reduceMul, Nat.reduceEqDiff, Nat.reduceBEq, Nat.reduceMod, Nat.reduceDiv, Int.reduceToNat, reduceCtorEq, Int.reduceLT, Int.reduceLE, Int.reduceGT, Int.reduceGE, Int.reduceAdd, Int.reduceSub, Int.reduceMul, Int.reduceNeg, Int.reduceEq, Int.reduceNe, Int.reduceBNe, Int.reduceBEq, Int.reduceDiv, List.length_map]
    refine ex_br (fun h => ?_) (fun h => ?_)
    · have hlt : i < l.length := by simpa using h
      obtain ⟨x, ex⟩ : ∃ x, l[i]? = some x := ⟨_, List.getElem?_eq_getElem hlt⟩
      simp only [go_sem, ↓reduceIte, Nat.reduceLT, Nat.reduceLeDiff, Nat.reduceAdd, Nat.reduceSub, Nat.reduceMul, Nat.reduceEqDiff, Nat.reduceBEq, Nat.reduceMod, Nat.reduceDiv, Int.reduceToNat, reduceCtorEq, Int.reduceLT, Int.reduceLE, Int.reduceGT, Int.reduceGE, Int.reduceAdd, Int.reduceSub, Int.reduceMul, Int.reduceNeg, Int.reduceEq, Int.reduceNe, Int.reduceBNe, Int.reduceBEq, Int.reduceDiv, List.length_map, List.getElem?_map, ex, Int.toNat_natCast]
      repeat with_reducible refine And.intro (by first | omega | (simp only [List.length_cons, List.length_append, List.length_nil, List.length_map, List.length_take, List.length_drop, List.length_set]; omega)) ?_
      refine next (i + 1) _ (by omega) (by omega) ?_
      rw [← wi64_nat i (by omega), ← take_snoc _ ex]
      simp only [ASt.keep, consIf, keepL, keepV, AV.isBot, List.contains_cons, List.contains_nil, Nat.reduceBEq, Bool.or_false, Bool.false_or, Bool.or_true, Bool.true_or, beq_self_eq_true, Bool.false_eq_true, ↓reduceIte, if_false, if_true]
    · have hge : i = l.length := by simp at h; omega
      subst hge
      simp only [go_sem, ↓reduceIte, Nat.reduceLT, Nat.reduceLeDiff, Nat.reduceAdd, Nat.reduceSub, Nat.reduceMul, Nat.reduceEqDiff, Nat.reduceBEq, Nat.reduceMod, Nat.reduceDiv, Int.reduceToNat, reduceCtorEq, Int.reduceLT, Int.reduceLE, Int.reduceGT, Int.reduceGE, Int.reduceAdd, Int.reduceSub, Int.reduceMul, Int.reduceNeg, Int.reduceEq, Int.reduceNe, Int.reduceBNe, Int.reduceBEq, Int.reduceDiv, List.take_length]
      refine finOne ?_ (fun _ e => by cases e)
      show resOf _ _ [.tmp 2] = _
      simp only [go_sem, ↓reduceIte, Nat.reduceLT, Nat.reduceLeDiff, Nat.reduceAdd, Nat.reduceSub, Nat.reduceMul, Nat.reduceEqDiff, Nat.reduceBEq, Nat.reduceMod, Nat.reduceDiv, Int.reduceToNat, reduceCtorEq, Int.reduceLT, Int.reduceLE, Int.reduceGT, Int.reduceGE, Int.reduceAdd, Int.reduceSub, Int.reduceMul, Int.reduceNeg, Int.reduceEq, Int.reduceNe, Int.reduceBNe, Int.reduceBEq, Int.reduceDiv]

end Go.Proofs.Ytpepfhbfooeoeaa.VA
end
section
/- Transactions: copies, weights, plain ones. -/
namespace Go.Proofs.Ytpepfhbfooeoeaa.VA
set_option maxRecDepth 10000
set_option linter.unusedSimpArgs false
set_option linter.unusedVariables false
set_option maxHeartbeats 8000000

def TxD.dull (t : TxD) : AV := .agg [.int .i64 t.frm, .int .i64 t.nonce, .int .u64 (lim t.tip 0), .int .u64 (lim t.tip 1), .int .u64 (lim t.tip 2), .int .u64 (lim t.tip 3), .int .u64 (lim t.cap 0), .int .u64 (lim t.cap 1), .int .u64 (lim t.cap 2), .int .u64 (lim t.cap 3), .int .u64 (lim t.bcap 0), .int .u64 (lim t.bcap 1), .int .u64 (lim t.bcap 2), .int .u64 (lim t.bcap 3), .int .u64 (lim t.value 0), .int .u64 (lim t.value 1), .int .u64 (lim t.value 2), .int .u64 (lim t.value 3), .int .i64 t.gas, .sl true 1 (t.hashes.map (AV.int .u64)), .sl true 1 (t.blobs.map AV.str)]
theorem TxD.dull_av (t : TxD) : Dull t.dull t.av := by
  refine dulls_agg ?_
  repeat' (first | exact Dulls.nil | exact Dull.refl _ | exact dsl _ _ _ | refine Dulls.cons ?_ ?_)
theorem c_CopyTx (t : TxD) (h : t.ok) : Contract Try.prog 24 [t.av] t.av := by
  refine contract_of (C := cf 14 [1, 2, 3] (fun _ => [])) (cf_ok _ _ _) (fn := Try.f24) Try.func24 (by kernel_rfl) rfl (by kernel_rfl) (by simp [cf]) (plain1 t.plain) (by decide) (cellsOk (by kernel_rfl)) ?_
  simp only [go_sem, seval, TxD.av, TxD.cells, ints, strs]
  refine ex_call (by exact c_CopyMarks t.hashes h.hashes) ?_
  simp only [go_sem, seval]
  refine ex_call (by exact c_CopyStrings t.blobs h.blobs) ?_
  simp only [go_sem, seval]
  refine finOneD (r' := .agg [.int .i64 t.frm, .int .i64 t.nonce, .int .u64 (lim t.tip 0), .int .u64 (lim t.tip 1), .int .u64 (lim t.tip 2), .int .u64 (lim t.tip 3), .int .u64 (lim t.cap 0), .int .u64 (lim t.cap 1), .int .u64 (lim t.cap 2), .int .u64 (lim t.cap 3), .int .u64 (lim t.bcap 0), .int .u64 (lim t.bcap 1), .int .u64 (lim t.bcap 2), .int .u64 (lim t.bcap 3), .int .u64 (lim t.value 0), .int .u64 (lim t.value 1), .int .u64 (lim t.value 2), .int .u64 (lim t.value 3), .int .i64 t.gas, .sl true 1 (t.hashes.map (AV.int .u64)), .sl true 1 (t.blobs.map AV.str)]) ?_ ?_ (fun _ e => by cases e) (fun _ e => by cases e)
  · show resOf _ _ [.cell 2 29] = _
    simp only [go_sem, seval]
  · refine dulls_agg ?_
    repeat' (first | exact Dulls.nil | exact Dull.refl _ | exact dsl _ _ _ | refine Dulls.cons ?_ ?_)

/-- How much the texts of a transaction weigh. -/
def weigh : Int → List (List UInt8) → Int
  | n, [] => n
  | n, b :: bs => if n < 1048576 then weigh (n + b.length) bs else n
def weightOf (t : TxD) : Int := weigh (1 + t.hashes.length + t.blobs.length) t.blobs
theorem weigh_drop {n : Int} {bs : List (List UInt8)} {i : Nat} {b : List UInt8} (e : bs[i]? = some b) (h : n < 1048576) : weigh n (bs.drop i) = weigh (n + b.length) (bs.drop (i + 1)) := by
  obtain ⟨hi, rfl⟩ := List.getElem?_eq_some_iff.1 e
  rw [← List.getElem_cons_drop hi]
  simp only [weigh, if_pos h]
theorem weigh_end {n : Int} {bs : List (List UInt8)} (h : ¬ n < 1048576) : weigh n bs = n := by
  cases bs with
  | nil => rfl
  | cons b bs => simp only [weigh, if_neg h]
theorem c_TxWeight (t : TxD) (h : t.ok) : Contract Try.prog 65 [t.av] (.int .i64 (weightOf t)) := by
  refine contract_of (C := cf 33 [1, 2, 3, 4, 21] (fun _ => [])) (cf_ok _ _ _) (fn := Try.f65) Try.func65 (by kernel_rfl) rfl (by kernel_rfl) (by simp [cf]) (plain1 t.plain) (by decide) (noCell (by kernel_rfl)) ?_
  have h1 := h.hashes
  have h2 := h.blobs
  unfold reachBytes at h1 h2
  have w1 : IntKind.i64.wrap (1 + (t.hashes.length : Int)) = 1 + (t.hashes.length : Int) := wi64 (by omega) (by omega)
  have w2 : IntKind.i64.wrap (1 + (t.hashes.length : Int) + (t.blobs.length : Int)) = 1 + (t.hashes.length : Int) + t.blobs.length := wi64 (by omega) (by omega)
  simp only [go_sem, seval, TxD.av, TxD.cells, ints, strs, List.length_map, w1, w2]
  refine ex_iter [1, 3, 4] (fun q : Nat × Int => ⟨[(1, .var 1 0), (3, .int .i64 q.2), (4, .int .i64 q.1)], [(1, [.int .i64 t.frm, .int .i64 t.nonce, .int .u64 (lim t.tip 0), .int .u64 (lim t.tip 1), .int .u64 (lim t.tip 2), .int .u64 (lim t.tip 3), .int .u64 (lim t.cap 0), .int .u64 (lim t.cap 1), .int .u64 (lim t.cap 2), .int .u64 (lim t.cap 3), .int .u64 (lim t.bcap 0), .int .u64 (lim t.bcap 1), .int .u64 (lim t.bcap 2), .int .u64 (lim t.bcap 3), .int .u64 (lim t.value 0), .int .u64 (lim t.value 1), .int .u64 (lim t.value 2), .int .u64 (lim t.value 3), .int .i64 t.gas, .sl false 1 (t.hashes.map (AV.int .u64)), .sl false 1 (t.blobs.map AV.str)])], []⟩)
    (fun q => q.1 ≤ t.blobs.length ∧ 0 ≤ q.2 ∧ q.2 ≤ 281474976710656 ∧ weigh q.2 (t.blobs.drop q.1) = weightOf t) (fun q => t.blobs.length - q.1) (0, 1 + (t.hashes.length : Int) + t.blobs.length) ?_ ?_ ?_
  · simp only [ASt.keep, consIf, keepL, keepV, AV.isBot, List.contains_cons, List.contains_nil, Nat.reduceBEq, Bool.or_false, Bool.false_or, Bool.or_true, Bool.true_or, beq_self_eq_true, Bool.false_eq_true, ↓reduceIte, if_false, if_true]
    rfl
  · exact ⟨Nat.zero_le _, by simp only; omega, by simp only; omega, rfl⟩
  · rintro r ⟨i, n⟩ hinv next
    obtain ⟨hi, hn1, hn2, hw⟩ : i ≤ t.blobs.length ∧ 0 ≤ n ∧ n ≤ 281474976710656 ∧ weigh n (t.blobs.drop i) = weightOf t := hinv
    simp only [go_sem, seval, List.length_map]
    refine ex_joinB 21 (decide (i < t.blobs.length) && decide (n < 1048576)) ?_ ?_
    · repeat' (first | (refine ex_split (fun h => ?_) (fun h => ?_)) | (with_reducible refine And.intro (by omega) ?_) |
        (simp only [go_sem, seval, List.length_map]))
      all_goals (try simp only [ASt.mk.injEq, List.cons.injEq, Prod.mk.injEq, AV.bool.injEq, true_and, and_true, eq_self])
      all_goals first | (simp_all; done) | (simp_all; omega) | (rw [Bool.eq_iff_iff]; simp only [List.length_map, Bool.or_eq_true, Bool.and_eq_true, Bool.not_eq_true', Bool.not_eq_false', decide_eq_true_eq, decide_eq_false_iff_not, bne_iff_ne, beq_iff_eq, ne_eq, true_iff, iff_true, false_iff, iff_false, Bool.false_eq_true, not_false_eq_true, not_true_eq_false] at *; omega)
    simp only [go_sem, seval]
    refine ex_br (fun hc => ?_) (fun hc => ?_)
    · have hlt : i < t.blobs.length ∧ n < 1048576 := by simpa using hc
      obtain ⟨b, eb⟩ : ∃ b, t.blobs[i]? = some b := ⟨_, List.getElem?_eq_getElem hlt.1⟩
      have hb := h.blob b (List.mem_of_getElem? eb)
      unfold reachBytes at hb
      have w3 : IntKind.i64.wrap (n + (b.length : Int)) = n + b.length := wi64 (by omega) (by omega)
      simp only [go_sem, seval, List.length_map, List.getElem?_map, eb, Int.toNat_natCast, w3]
      repeat with_reducible refine And.intro (by first | omega | (simp only [List.length_cons, List.length_append, List.length_nil, List.length_map, List.length_take, List.length_drop, List.length_set]; omega)) ?_
      refine next (i + 1, n + b.length) _ ⟨by simp only; omega, by simp only; omega, by simp only; omega, by simp only; rw [← weigh_drop eb hlt.2]; exact hw⟩ (by simp only; omega) ?_
      simp only
      rw [← wi64_nat i (by omega)]
      simp only [ASt.keep, consIf, keepL, keepV, AV.isBot, List.contains_cons, List.contains_nil, Nat.reduceBEq, Bool.or_false, Bool.false_or, Bool.or_true, Bool.true_or, beq_self_eq_true, Bool.false_eq_true, ↓reduceIte, if_false, if_true]
    · have e : weightOf t = n := by
        rw [← hw]
        by_cases h1 : n < 1048576
        · have : i = t.blobs.length := by simp [h1] at hc; omega
          rw [this, List.drop_length]; rfl
        · exact weigh_end h1
      simp only [go_sem, seval, e]
      refine finOne ?_ (fun _ e => by cases e)
      show resOf _ _ [.tmp 2] = _
      simp only [go_sem, seval]

theorem weigh_bounds (bs : List (List UInt8)) (hb : ∀ b ∈ bs, b.length ≤ reachBytes) : ∀ n : Int, 0 ≤ n → n ≤ 281474976710656 → 0 ≤ weigh n bs ∧ weigh n bs ≤ 281474976710656 := by
  induction bs with
  | nil => intro n h1 h2; exact ⟨h1, h2⟩
  | cons b bs ih =>
    intro n h1 h2
    simp only [weigh]
    have := hb b (by simp)
    unfold reachBytes at this
    split
    · exact ih (fun x hx => hb x (List.mem_cons_of_mem _ hx)) _ (by omega) (by omega)
    · exact ⟨h1, h2⟩
theorem weightOf_bounds (t : TxD) (h : t.ok) : 0 ≤ weightOf t ∧ weightOf t ≤ 281474976710656 := by
  have h1 := h.hashes
  have h2 := h.blobs
  unfold reachBytes at h1 h2
  exact weigh_bounds _ h.blob _ (by omega) (by omega)
theorem lims_small (g : Nat) (hg : g < 18446744073709551616) : lim g 0 = g ∧ lim g 1 = 0 ∧ lim g 2 = 0 ∧ lim g 3 = 0 := by
  have h := u_small g hg
  unfold u at h
  injection h with h
  injection h with h0 h
  injection h with h1 h
  injection h with h2 h
  injection h with h3 h
  injection h0 with _ h0
  injection h1 with _ h1
  injection h2 with _ h2
  injection h3 with _ h3
  exact ⟨h0, h1, h2, h3⟩
/-- A plain transaction. -/
def plainTx (f n : Int) (p : Nat) : TxD := ⟨f, n, p, 2 * p, p, 0, 1, [hashOf [98]], [[98]]⟩
theorem c_T (f n : Int) (p : Nat) (hp : 2 * p < 18446744073709551616) : Contract Try.prog 22 [.int .i64 f, .int .i64 n, .int .u64 p] (plainTx f n p).av := by
  refine contract_of (C := cf 20 [0, 1, 2, 6] (fun _ => [])) (cf_ok _ _ _) (fn := Try.f22) Try.func22 (by kernel_rfl) rfl (by kernel_rfl) (by simp [cf]) (plain3 (.int _ _) (.int _ _) (.int _ _)) (by decide) (cellsOk (by kernel_rfl)) ?_
  have w : IntKind.u64.wrap (2 * (p : Int)) = ((2 * p : Nat) : Int) := by rw [wu64 (by omega) (by omega)]; omega
  simp only [go_sem, seval, w]
  refine ex_call (by exact c_ref4_Hash [98] (by decide)) ?_
  simp only [go_sem, seval]
  have l1 := lims_small p (by omega)
  have l2 := lims_small (2 * p) hp
  have l0 := lims_small 0 (by decide)
  have l3 : lim 0 0 = 0 := l0.1
  refine finOneD (r' := .agg [.int .i64 f, .int .i64 n, .int .u64 p, .int .u64 0, .int .u64 0, .int .u64 0, .int .u64 (2 * p : Nat), .int .u64 0, .int .u64 0, .int .u64 0, .int .u64 p, .int .u64 0, .int .u64 0, .int .u64 0, .int .u64 0, .int .u64 0, .int .u64 0, .int .u64 0, .int .i64 1, .sl true 1 [.int .u64 (hashOf [98])], .sl true 1 [.str [98]]]) ?_ ?_ (fun _ e => by cases e) (fun _ e => by cases e)
  · show resOf _ _ [.cell 6 29] = _
    simp only [go_sem, seval]
  · unfold TxD.av TxD.cells plainTx
    simp only [l1, l2, l0, l3, ints, strs, List.map_cons, List.map_nil]
    refine dulls_agg ?_
    repeat' (first | exact Dulls.nil | exact Dull.refl _ | exact dsl _ _ _ | refine Dulls.cons ?_ ?_)
theorem plain_ok (f n : Int) (p : Nat) (hf : -9223372036854775808 ≤ f ∧ f ≤ 9223372036854775807) (hn : -9223372036854775808 ≤ n ∧ n ≤ 9223372036854775807) (hp : 2 * p < 18446744073709551616) : (plainTx f n p).ok :=
  ⟨hf, hn, by simp only [plainTx]; omega, by simp only [plainTx, U]; omega, by simp only [plainTx, U]; omega, by simp only [plainTx, U]; omega, by simp only [plainTx, U]; omega, by simp only [plainTx, reachBytes]; decide, by simp only [plainTx, reachBytes]; decide, fun b hb => by
    simp only [plainTx, List.mem_singleton] at hb
    subst hb; unfold reachBytes; decide⟩
end Go.Proofs.Ytpepfhbfooeoeaa.VA
end
section
/- Transactions: comparisons. -/
namespace Go.Proofs.Ytpepfhbfooeoeaa.VA
set_option maxRecDepth 10000
set_option linter.unusedSimpArgs false
set_option linter.unusedVariables false
set_option maxHeartbeats 8000000

theorem take_eq_succ {α : Type} {a b : List α} {i : Nat} {x : α} (h : a.take i = b.take i) (ha : a[i]? = some x) (hb : b[i]? = some x) : a.take (i + 1) = b.take (i + 1) := by
  rw [List.take_add_one, List.take_add_one, h, ha, hb]
theorem eq_of_takes {α : Type} {a b : List α} (hl : a.length = b.length) {i : Nat} (hi : i = a.length) (h : a.take i = b.take i) : a = b := by
  subst hi
  rw [List.take_length, hl, List.take_length] at h
  exact h
theorem ne_of_get {α : Type} {a b : List α} {i : Nat} {x y : α} (ha : a[i]? = some x) (hb : b[i]? = some y) (h : x ≠ y) : a ≠ b := by
  rintro rfl
  rw [ha] at hb
  cases hb
  exact h rfl

theorem c_EqMarks (a b : List Int) (ha : a.length * 8 ≤ reachBytes) (hb : b.length * 8 ≤ reachBytes) : Contract Try.prog 75 [ints .u64 a, ints .u64 b] (.bool (decide (a = b))) := by
  unfold reachBytes at ha hb
  refine contract_of (C := cf 26 [0, 1, 4, 5, 10, 14, 25] (fun _ => [])) (cf_ok _ _ _) (fn := Try.f75) Try.func75 (by kernel_rfl) rfl (by kernel_rfl) (by simp [cf]) (plain2 (ints_plain _ a) (ints_plain _ b)) (by decide) (noCell (by kernel_rfl)) ?_
  simp only [go_sem, seval, ints, List.length_map]
  refine ex_br (fun h => ?_) (fun h => ?_)
  · have hne : a ≠ b := by
      rintro rfl
      simp at h
    rw [decide_eq_false hne]
    simp only [go_sem, seval]
    refine finOne ?_ (fun _ e => by cases e)
    show resOf _ _ [.tmp 4] = _
    simp only [go_sem, seval]
  · have hl : a.length = b.length := by simp at h; omega
    simp only [go_sem, seval]
    refine ex_iter [0, 1, 5] (fun i : Nat => ⟨[(0, .sl false 1 (a.map (AV.int .u64))), (1, .sl false 1 (b.map (AV.int .u64))), (5, .int .i64 i)], [], []⟩) (fun i => i ≤ a.length ∧ a.take i = b.take i) (fun i => a.length - i) 0 ?_ ?_ ?_
    · simp only [ASt.keep, consIf, keepL, keepV, AV.isBot, List.contains_cons, List.contains_nil, Nat.reduceBEq, Bool.or_false, Bool.false_or, Bool.or_true, Bool.true_or, beq_self_eq_true, Bool.false_eq_true, ↓reduceIte, if_false, if_true]
      rfl
    · exact ⟨Nat.zero_le _, by simp⟩
    · rintro n i ⟨hi, ht⟩ next
      simp only [go_sem, seval, List.length_map]
      refine ex_br (fun h => ?_) (fun h => ?_)
      · have hlt : i < a.length := by simpa using h
        obtain ⟨x, ex⟩ : ∃ x, a[i]? = some x := ⟨_, List.getElem?_eq_getElem hlt⟩
        obtain ⟨y, ey⟩ : ∃ y, b[i]? = some y := ⟨_, List.getElem?_eq_getElem (by omega)⟩
        simp only [go_sem, seval]
        refine ex_draw [] [] (.quiet 0 (.quiet 1 (.quiet 2 (.quiet 3 (.quiet 4 (.quiet 5 (.quiet 6 (.quiet 7 (.quiet 8 (.fin)))))))))) (by kernel_rfl) ?_
        simp only [go_sem, seval, List.length_map, List.getElem?_map, ex, ey, Int.toNat_natCast]
        repeat with_reducible refine And.intro (by first | omega | (simp only [List.length_cons, List.length_append, List.length_nil, List.length_map, List.length_take, List.length_drop, List.length_set]; omega)) ?_
        refine ex_br (fun hne => ?_) (fun hne => ?_)
        · rw [decide_eq_false (ne_of_get ex ey (by simpa using hne))]
          simp only [go_sem, seval]
          refine finOne ?_ (fun _ e => by cases e)
          show resOf _ _ [.tmp 4] = _
          simp only [go_sem, seval]
        · have hxy : x = y := by simpa using hne
          subst hxy
          simp only [go_sem, seval]
          refine next (i + 1) _ ⟨by omega, take_eq_succ ht ex ey⟩ (by omega) ?_
          rw [← wi64_nat i (by omega)]
          simp only [ASt.keep, consIf, keepL, keepV, AV.isBot, List.contains_cons, List.contains_nil, Nat.reduceBEq, Bool.or_false, Bool.false_or, Bool.or_true, Bool.true_or, beq_self_eq_true, Bool.false_eq_true, ↓reduceIte, if_false, if_true]
      · have hge : i = a.length := by simp at h; omega
        rw [decide_eq_true (eq_of_takes hl hge ht)]
        simp only [go_sem, seval]
        refine finOne ?_ (fun _ e => by cases e)
        show resOf _ _ [.tmp 4] = _
        simp only [go_sem, seval]
theorem c_EqStrings (a b : List (List UInt8)) (ha : a.length * 16 ≤ reachBytes) (hb : b.length * 16 ≤ reachBytes) : Contract Try.prog 76 [strs a, strs b] (.bool (decide (a = b))) := by
  unfold reachBytes at ha hb
  refine contract_of (C := cf 26 [0, 1, 4, 5, 10, 14, 25] (fun _ => [])) (cf_ok _ _ _) (fn := Try.f76) Try.func76 (by kernel_rfl) rfl (by kernel_rfl) (by simp [cf]) (plain2 (strs_plain a) (strs_plain b)) (by decide) (noCell (by kernel_rfl)) ?_
  simp only [go_sem, seval, strs, List.length_map]
  refine ex_br (fun h => ?_) (fun h => ?_)
  · have hne : a ≠ b := by
      rintro rfl
      simp at h
    rw [decide_eq_false hne]
    simp only [go_sem, seval]
    refine finOne ?_ (fun _ e => by cases e)
    show resOf _ _ [.tmp 4] = _
    simp only [go_sem, seval]
  · have hl : a.length = b.length := by simp at h; omega
    simp only [go_sem, seval]
    refine ex_iter [0, 1, 5] (fun i : Nat => ⟨[(0, .sl false 1 (a.map AV.str)), (1, .sl false 1 (b.map AV.str)), (5, .int .i64 i)], [], []⟩) (fun i => i ≤ a.length ∧ a.take i = b.take i) (fun i => a.length - i) 0 ?_ ?_ ?_
    · simp only [ASt.keep, consIf, keepL, keepV, AV.isBot, List.contains_cons, List.contains_nil, Nat.reduceBEq, Bool.or_false, Bool.false_or, Bool.or_true, Bool.true_or, beq_self_eq_true, Bool.false_eq_true, ↓reduceIte, if_false, if_true]
      rfl
    · exact ⟨Nat.zero_le _, by simp⟩
    · rintro n i ⟨hi, ht⟩ next
      simp only [go_sem, seval, List.length_map]
      refine ex_br (fun h => ?_) (fun h => ?_)
      · have hlt : i < a.length := by simpa using h
        obtain ⟨x, ex⟩ : ∃ x, a[i]? = some x := ⟨_, List.getElem?_eq_getElem hlt⟩
        obtain ⟨y, ey⟩ : ∃ y, b[i]? = some y := ⟨_, List.getElem?_eq_getElem (by omega)⟩
        simp only [go_sem, seval]
        refine ex_draw [] [] (.quiet 0 (.quiet 1 (.quiet 2 (.quiet 3 (.quiet 4 (.quiet 5 (.quiet 6 (.quiet 7 (.quiet 8 (.fin)))))))))) (by kernel_rfl) ?_
        simp only [go_sem, seval, List.length_map, List.getElem?_map, ex, ey, Int.toNat_natCast]
        repeat with_reducible refine And.intro (by first | omega | (simp only [List.length_cons, List.length_append, List.length_nil, List.length_map, List.length_take, List.length_drop, List.length_set]; omega)) ?_
        refine ex_br (fun hne => ?_) (fun hne => ?_)
        · rw [decide_eq_false (ne_of_get ex ey (by simpa using hne))]
          simp only [go_sem, seval]
          refine finOne ?_ (fun _ e => by cases e)
          show resOf _ _ [.tmp 4] = _
          simp only [go_sem, seval]
        · have hxy : x = y := by simpa using hne
          subst hxy
          simp only [go_sem, seval]
          refine next (i + 1) _ ⟨by omega, take_eq_succ ht ex ey⟩ (by omega) ?_
          rw [← wi64_nat i (by omega)]
          simp only [ASt.keep, consIf, keepL, keepV, AV.isBot, List.contains_cons, List.contains_nil, Nat.reduceBEq, Bool.or_false, Bool.false_or, Bool.or_true, Bool.true_or, beq_self_eq_true, Bool.false_eq_true, ↓reduceIte, if_false, if_true]
      · have hge : i = a.length := by simp at h; omega
        rw [decide_eq_true (eq_of_takes hl hge ht)]
        simp only [go_sem, seval]
        refine finOne ?_ (fun _ e => by cases e)
        show resOf _ _ [.tmp 4] = _
        simp only [go_sem, seval]

/-! Two transactions. -/
def eqTx (a b : TxD) : Bool := (a.frm == b.frm) && ((a.nonce == b.nonce) && (decide (a.tip = b.tip) && (decide (a.cap = b.cap) && (decide (a.bcap = b.bcap) && (decide (a.value = b.value) && ((a.gas == b.gas) && (decide (a.hashes = b.hashes) && decide (a.blobs = b.blobs))))))))
theorem eqTx_iff (a b : TxD) : eqTx a b = true ↔ a = b := by
  cases a; cases b
  simp only [eqTx, Bool.and_eq_true, beq_iff_eq, decide_eq_true_eq, TxD.mk.injEq]
instance : DecidableEq TxD := fun a b => decidable_of_iff (eqTx a b = true) (eqTx_iff a b)
theorem eqTx_dec (a b : TxD) : eqTx a b = decide (a = b) := by
  rw [Bool.eq_iff_iff, eqTx_iff]; simp
theorem u_inj {n m : Nat} (hn : n < U) (hm : m < U) (h : u n = u m) : n = m := by
  obtain ⟨a, b, c, d, h0, h1, h2, h3, rfl⟩ := u_limbs n hn
  obtain ⟨a', b', c', d', k0, k1, k2, k3, rfl⟩ := u_limbs m hm
  rw [u_eq h0 h1 h2 h3 rfl, u_eq k0 k1 k2 k3 rfl] at h
  injection h with h
  simp only [List.cons.injEq, AV.int.injEq, true_and, and_true] at h
  omega
theorem eqU (n m : Nat) (hn : n < U) (hm : m < U) : ((lim n 0 == lim m 0) && ((lim n 1 == lim m 1) && ((lim n 2 == lim m 2) && (lim n 3 == lim m 3)))) = decide (n = m) := by
  rw [Bool.eq_iff_iff]
  simp only [Bool.and_eq_true, beq_iff_eq, decide_eq_true_eq]
  constructor
  · rintro ⟨e0, e1, e2, e3⟩
    refine u_inj hn hm ?_
    unfold u
    rw [e0, e1, e2, e3]
  · rintro rfl
    exact ⟨rfl, rfl, rfl, rfl⟩
theorem c_EqTx (a b : TxD) (ha : a.ok) (hb : b.ok) : Contract Try.prog 21 [a.av, b.av] (.bool (decide (a = b))) := by
  rw [← eqTx_dec]
  have e1 := eqU a.tip b.tip ha.tip hb.tip
  have e2 := eqU a.cap b.cap ha.cap hb.cap
  have e3 := eqU a.bcap b.bcap ha.bcap hb.bcap
  have e4 := eqU a.value b.value ha.value hb.value
  refine contract_of (C := cf 66 [2, 3, 4] (fun _ => [])) (cf_ok _ _ _) (fn := Try.f21) Try.func21 (by kernel_rfl) rfl (by kernel_rfl) (by simp [cf]) (plain2 a.plain b.plain) (by decide) (noCell (by kernel_rfl)) ?_
  simp only [go_sem, seval, TxD.av, TxD.cells, ints, strs]
  cases h1 : (a.frm == b.frm)
  · have e : eqTx a b = false := by unfold eqTx; rw [h1]; rfl
    simp only [go_sem, seval, e]
    refine finOne ?_ (fun _ e => by cases e)
    show resOf _ _ [.tmp 4] = _
    simp only [go_sem, seval]
  simp only [go_sem, seval]
  cases h2 : (a.nonce == b.nonce)
  · have e : eqTx a b = false := by unfold eqTx; rw [h1, h2]; rfl
    simp only [go_sem, seval, e]
    refine finOne ?_ (fun _ e => by cases e)
    show resOf _ _ [.tmp 4] = _
    simp only [go_sem, seval]
  simp only [go_sem, seval, e1]
  cases h3 : decide (a.tip = b.tip)
  · have e : eqTx a b = false := by unfold eqTx; rw [h1, h2, h3]; rfl
    simp only [go_sem, seval, e]
    refine finOne ?_ (fun _ e => by cases e)
    show resOf _ _ [.tmp 4] = _
    simp only [go_sem, seval]
  simp only [go_sem, seval, e2]
  cases h4 : decide (a.cap = b.cap)
  · have e : eqTx a b = false := by unfold eqTx; rw [h1, h2, h3, h4]; rfl
    simp only [go_sem, seval, e]
    refine finOne ?_ (fun _ e => by cases e)
    show resOf _ _ [.tmp 4] = _
    simp only [go_sem, seval]
  simp only [go_sem, seval, e3]
  cases h5 : decide (a.bcap = b.bcap)
  · have e : eqTx a b = false := by unfold eqTx; rw [h1, h2, h3, h4, h5]; rfl
    simp only [go_sem, seval, e]
    refine finOne ?_ (fun _ e => by cases e)
    show resOf _ _ [.tmp 4] = _
    simp only [go_sem, seval]
  simp only [go_sem, seval, e4]
  cases h6 : decide (a.value = b.value)
  · have e : eqTx a b = false := by unfold eqTx; rw [h1, h2, h3, h4, h5, h6]; rfl
    simp only [go_sem, seval, e]
    refine finOne ?_ (fun _ e => by cases e)
    show resOf _ _ [.tmp 4] = _
    simp only [go_sem, seval]
  simp only [go_sem, seval]
  cases h7 : (a.gas == b.gas)
  · have e : eqTx a b = false := by unfold eqTx; rw [h1, h2, h3, h4, h5, h6, h7]; rfl
    simp only [go_sem, seval, e]
    refine finOne ?_ (fun _ e => by cases e)
    show resOf _ _ [.tmp 4] = _
    simp only [go_sem, seval]
  simp only [go_sem, seval]
  refine ex_call (by exact c_EqMarks a.hashes b.hashes ha.hashes hb.hashes) ?_
  cases h8 : decide (a.hashes = b.hashes)
  · have e : eqTx a b = false := by unfold eqTx; rw [h1, h2, h3, h4, h5, h6, h7, h8]; rfl
    simp only [go_sem, seval, e]
    refine finOne ?_ (fun _ e => by cases e)
    show resOf _ _ [.tmp 4] = _
    simp only [go_sem, seval]
  simp only [go_sem, seval]
  refine ex_call (by exact c_EqStrings a.blobs b.blobs ha.blobs hb.blobs) ?_
  have e : eqTx a b = decide (a.blobs = b.blobs) := by unfold eqTx; rw [h1, h2, h3, h4, h5, h6, h7, h8]; rfl
  simp only [go_sem, seval, e]
  refine finOne ?_ (fun _ e => by cases e)
  show resOf _ _ [.tmp 4] = _
  simp only [go_sem, seval]
end Go.Proofs.Ytpepfhbfooeoeaa.VA
end
section
/- Rows of transactions. -/
namespace Go.Proofs.Ytpepfhbfooeoeaa.VA
set_option maxRecDepth 10000

def txs (l : List TxD) : AV := .sl false 21 (l.map TxD.av)
theorem txs_plain (l : List TxD) : Plain (txs l) := plain_txs l
end Go.Proofs.Ytpepfhbfooeoeaa.VA
end
section
/- Rows of transactions: copies, comparisons, weights. -/
namespace Go.Proofs.Ytpepfhbfooeoeaa.VA
set_option maxRecDepth 10000
set_option linter.unusedSimpArgs false
set_option linter.unusedVariables false
set_option maxHeartbeats 8000000

theorem cells_len (t : TxD) : t.cells.length = 21 := rfl
theorem c_CopyTxs (l : List TxD) (hl : l.length * 200 ≤ reachBytes) (hok : ∀ a ∈ l, a.ok) : Contract Try.prog 28 [txs l] (.own false 21 (l.map TxD.av)) := by
  unfold reachBytes at hl
  refine contract_of (C := cf 20 [0, 2, 3, 4, 8] (fun _ => [])) (cf_ok _ _ _) (fn := Try.f28) Try.func28 (by kernel_rfl) rfl (by kernel_rfl) (by simp [cf]) (plain1 (txs_plain l)) (by decide) (noCell (by kernel_rfl)) ?_
  simp only [go_sem, ↓reduceIte, Nat.reduceLT, Nat.reduceLeDiff, Nat.reduceAdd, Nat.reduceSub, Nat.reduceMul, Nat.reduceEqDiff, Nat.reduceBEq, Nat.reduceMod, Nat.reduceDiv, Int.reduceToNat, reduceCtorEq, Int.reduceLT, Int.reduceLE, Int.reduceGT, Int.reduceGE, Int.reduceAdd, Int.reduceSub, Int.reduceMul, Int.reduceNeg, Int.reduceEq, Int.reduceNe, Int.reduceBNe, Int.reduceBEq, Int.reduceDiv, txs]
  refine ex_iter [0, 3, 4] (fun i : Nat => ⟨[(0, .sl false 21 (l.map TxD.av)), (3, .own false 21 ((l.take i).map TxD.av)), (4, .int .i64 i)], [], []⟩) (fun i => i ≤ l.length) (fun i => l.length - i) 0 ?_ ?_ ?_
  · simp only [ASt.keep, consIf, keepL, keepV, AV.isBot, List.contains_cons, List.contains_nil, Nat.reduceBEq, Bool.or_false, Bool.false_or, Bool.or_true, Bool.true_or, beq_self_eq_true, Bool.false_eq_true, ↓reduceIte, if_false, if_true]
    rfl
  · exact Nat.zero_le _
  · intro n i hi next
    simp only [go_sem, ↓reduceIte, Nat.reduceLT, Nat.reduceLeDiff, Nat.reduceAdd, Nat.reduceSub, Nat.reduceMul, Nat.reduceEqDiff, Nat.reduceBEq, Nat.reduceMod, Nat.reduceDiv, Int.reduceToNat, reduceCtorEq, Int.reduceLT, Int.reduceLE, Int.reduceGT, Int.reduceGE, Int.reduceAdd, Int.reduceSub, Int.reduceMul, Int.reduceNeg, Int.reduceEq, Int.reduceNe, Int.reduceBNe, Int.reduceBEq, Int.reduceDiv, List.length_map]
    refine ex_br (fun h => ?_) (fun h => ?_)
    · have hlt : i < l.length := by simpa using h
      obtain ⟨x, ex⟩ : ∃ x, l[i]? = some x := ⟨_, List.getElem?_eq_getElem hlt⟩
      have hs : (l.take i).map TxD.av ++ [.agg x.cells] = (l.take (i + 1)).map TxD.av := take_snoc TxD.av ex
      simp only [go_sem, ↓reduceIte, Nat.reduceLT, Nat.reduceLeDiff, Nat.reduceAdd, Nat.reduceSub, Nat.reduceMul, Nat.reduceEqDiff, Nat.reduceBEq, Nat.reduceMod, Nat.reduceDiv, Int.reduceToNat, reduceCtorEq, Int.reduceLT, Int.reduceLE, Int.reduceGT, Int.reduceGE, Int.reduceAdd, Int.reduceSub, Int.reduceMul, Int.reduceNeg, Int.reduceEq, Int.reduceNe, Int.reduceBNe, Int.reduceBEq, Int.reduceDiv, List.length_map, List.getElem?_map, ex, Int.toNat_natCast, TxD.av]
      repeat with_reducible refine And.intro (by first | omega | (simp only [List.length_cons, List.length_append, List.length_nil, List.length_map, List.length_take, List.length_drop, List.length_set]; omega)) ?_
      refine ex_call (by exact c_CopyTx x (hok x (List.mem_of_getElem? ex))) ?_
      simp only [go_sem, ↓reduceIte, Nat.reduceLT, Nat.reduceLeDiff, Nat.reduceAdd, Nat.reduceSub, Nat.reduceMul, Nat.reduceEqDiff, Nat.reduceBEq, Nat.reduceMod, Nat.reduceDiv, Int.reduceToNat, reduceCtorEq, Int.reduceLT, Int.reduceLE, Int.reduceGT, Int.reduceGE, Int.reduceAdd, Int.reduceSub, Int.reduceMul, Int.reduceNeg, Int.reduceEq, Int.reduceNe, Int.reduceBNe, Int.reduceBEq, Int.reduceDiv, List.length_map, TxD.av, cells_len]
      repeat with_reducible refine And.intro (by first | omega | (simp only [List.length_cons, List.length_append, List.length_nil, List.length_map, List.length_take, List.length_drop, List.length_set]; omega)) ?_
      refine next (i + 1) _ (by omega) (by omega) ?_
      rw [← wi64_nat i (by omega), ← hs]
      simp only [ASt.keep, consIf, keepL, keepV, AV.isBot, List.contains_cons, List.contains_nil, Nat.reduceBEq, Bool.or_false, Bool.false_or, Bool.or_true, Bool.true_or, beq_self_eq_true, Bool.false_eq_true, ↓reduceIte, if_false, if_true]
    · have hge : i = l.length := by simp at h; omega
      subst hge
      simp only [go_sem, ↓reduceIte, Nat.reduceLT, Nat.reduceLeDiff, Nat.reduceAdd, Nat.reduceSub, Nat.reduceMul, Nat.reduceEqDiff, Nat.reduceBEq, Nat.reduceMod, Nat.reduceDiv, Int.reduceToNat, reduceCtorEq, Int.reduceLT, Int.reduceLE, Int.reduceGT, Int.reduceGE, Int.reduceAdd, Int.reduceSub, Int.reduceMul, Int.reduceNeg, Int.reduceEq, Int.reduceNe, Int.reduceBNe, Int.reduceBEq, Int.reduceDiv, List.take_length]
      refine finOne ?_ (fun _ e => by cases e)
      show resOf _ _ [.tmp 2] = _
      simp only [go_sem, ↓reduceIte, Nat.reduceLT, Nat.reduceLeDiff, Nat.reduceAdd, Nat.reduceSub, Nat.reduceMul, Nat.reduceEqDiff, Nat.reduceBEq, Nat.reduceMod, Nat.reduceDiv, Int.reduceToNat, reduceCtorEq, Int.reduceLT, Int.reduceLE, Int.reduceGT, Int.reduceGE, Int.reduceAdd, Int.reduceSub, Int.reduceMul, Int.reduceNeg, Int.reduceEq, Int.reduceNe, Int.reduceBNe, Int.reduceBEq, Int.reduceDiv]
theorem c_EqTxs (a b : List TxD) (ha : a.length * 200 ≤ reachBytes) (hb : b.length * 200 ≤ reachBytes) (hao : ∀ t ∈ a, t.ok) (hbo : ∀ t ∈ b, t.ok) : Contract Try.prog 35 [txs a, txs b] (.bool (decide (a = b))) := by
  unfold reachBytes at ha hb
  refine contract_of (C := cf 27 [0, 1, 4, 5, 10, 14, 26] (fun _ => [])) (cf_ok _ _ _) (fn := Try.f35) Try.func35 (by kernel_rfl) rfl (by kernel_rfl) (by simp [cf]) (plain2 (txs_plain a) (txs_plain b)) (by decide) (noCell (by kernel_rfl)) ?_
  simp only [go_sem, ↓reduceIte, Nat.reduceLT, Nat.reduceLeDiff, Nat.reduceAdd, Nat.reduceSub, Nat.reduceMul, Nat.reduceEqDiff, Nat.reduceBEq, Nat.reduceMod, Nat.reduceDiv, Int.reduceToNat, reduceCtorEq, Int.reduceLT, Int.reduceLE, Int.reduceGT, Int.reduceGE, Int.reduceAdd, Int.reduceSub, Int.reduceMul, Int.reduceNeg, Int.reduceEq, Int.reduceNe, Int.reduceBNe, Int.reduceBEq, Int.reduceDiv, txs, List.length_map]
  refine ex_br (fun h => ?_) (fun h => ?_)
  · have hne : a ≠ b := by
      rintro rfl
      simp at h
    rw [decide_eq_false hne]
    simp only [go_sem, ↓reduceIte, Nat.reduceLT, Nat.reduceLeDiff, Nat.reduceAdd, Nat.reduceSub, Nat.reduceMul, Nat.reduceEqDiff, Nat.reduceBEq, Nat.reduceMod, Nat.reduceDiv, Int.reduceToNat, reduceCtorEq, Int.reduceLT, Int.reduceLE, Int.reduceGT, Int.reduceGE, Int.reduceAdd, Int.reduceSub, Int.reduceMul, Int.reduceNeg, Int.reduceEq, Int.reduceNe, Int.reduceBNe, Int.reduceBEq, Int.reduceDiv]
    refine finOne ?_ (fun _ e => by cases e)
    show resOf _ _ [.tmp 4] = _
    simp only [go_sem, ↓reduceIte, Nat.reduceLT, Nat.reduceLeDiff, Nat.reduceAdd, Nat.reduceSub, Nat.reduceMul, Nat.reduceEqDiff, Nat.reduceBEq, Nat.reduceMod, Nat.reduceDiv, Int.reduceToNat, reduceCtorEq, Int.reduceLT, Int.reduceLE, Int.reduceGT, Int.reduceGE, Int.reduceAdd, Int.reduceSub, Int.reduceMul, Int.reduceNeg, Int.reduceEq, Int.reduceNe, Int.reduceBNe, Int.reduceBEq, Int.reduceDiv]
  · have hl : a.length = b.length := by simp at h; omega
    simp only [go_sem, ↓reduceIte, Nat.reduceLT, Nat.reduceLeDiff, Nat.reduceAdd, Nat.reduceSub, Nat.reduceMul, Nat.reduceEqDiff, Nat.reduceBEq, Nat.reduceMod, Nat.reduceDiv, Int.reduceToNat, reduceCtorEq, Int.reduceLT, Int.reduceLE, Int.reduceGT, Int.reduceGE, Int.reduceAdd, Int.reduceSub, Int.reduceMul, Int.reduceNeg, Int.reduceEq, Int.reduceNe, Int.reduceBNe, Int.reduceBEq, Int.reduceDiv]
    refine ex_iter [0, 1, 5] (fun i : Nat => ⟨[(0, .sl false 21 (a.map TxD.av)), (1, .sl false 21 (b.map TxD.av)), (5, .int .i64 i)], [], []⟩) (fun i => i ≤ a.length ∧ a.take i = b.take i) (fun i => a.length - i) 0 ?_ ?_ ?_
    · simp only [ASt.keep, consIf, keepL, keepV, AV.isBot, List.contains_cons, List.contains_nil, Nat.reduceBEq, Bool.or_false, Bool.false_or, Bool.or_true, Bool.true_or, beq_self_eq_true, Bool.false_eq_true, ↓reduceIte, if_false, if_true]
      rfl
    · exact ⟨Nat.zero_le _, by simp⟩
    · rintro n i ⟨hi, ht⟩ next
      simp only [go_sem, ↓reduceIte, Nat.reduceLT, Nat.reduceLeDiff, Nat.reduceAdd, Nat.reduceSub, Nat.reduceMul, Nat.reduceEqDiff, Nat.reduceBEq, Nat.reduceMod, Nat.reduceDiv, Int.reduceToNat, reduceCtorEq, Int.reduceLT, Int.reduceLE, Int.reduceGT, Int.reduceGE, Int.reduceAdd, Int.reduceSub, Int.reduceMul, Int.reduceNeg, Int.reduceEq, Int.reduceNe, Int.reduceBNe, Int.reduceBEq, Int.reduceDiv, List.length_map]
      refine ex_br (fun h => ?_) (fun h => ?_)
      · have hlt : i < a.length := by simpa using h
        obtain ⟨x, ex⟩ : ∃ x, a[i]? = some x := ⟨_, List.getElem?_eq_getElem hlt⟩
        obtain ⟨y, ey⟩ : ∃ y, b[i]? = some y := ⟨_, List.getElem?_eq_getElem (by omega)⟩
        simp only [go_sem, ↓reduceIte, Nat.reduceLT, Nat.reduceLeDiff, Nat.reduceAdd, Nat.reduceSub, Nat.reduceMul, Nat.reduceEqDiff, Nat.reduceBEq, Nat.reduceMod, Nat.reduceDiv, Int.reduceToNat, reduceCtorEq, Int.reduceLT, Int.reduceLE, Int.reduceGT, Int.reduceGE, Int.reduceAdd, Int.reduceSub, Int.reduceMul, Int.reduceNeg, Int.reduceEq, Int.reduceNe, Int.reduceBNe, Int.reduceBEq, Int.reduceDiv]
        refine ex_draw [] [] (.quiet 0 (.quiet 1 (.quiet 2 (.quiet 3 (.quiet 4 (.quiet 5 (.quiet 6 (.quiet 7 (.one 8 (.quiet 9 (.fin))))))))))) (by kernel_rfl) ?_
        simp only [go_sem, ↓reduceIte, Nat.reduceLT, Nat.reduceLeDiff, Nat.reduceAdd, Nat.reduceSub, Nat.reduceMul, Nat.reduceEqDiff, Nat.reduceBEq, Nat.reduceMod, Nat.reduceDiv, Int.reduceToNat, reduceCtorEq, Int.reduceLT, Int.reduceLE, Int.reduceGT, Int.reduceGE, Int.reduceAdd, Int.reduceSub, Int.reduceMul, Int.reduceNeg, Int.reduceEq, Int.reduceNe, Int.reduceBNe, Int.reduceBEq, Int.reduceDiv, List.length_map, List.getElem?_map, ex, ey, Int.toNat_natCast, TxD.av]
        repeat with_reducible refine And.intro (by first | omega | (simp only [List.length_cons, List.length_append, List.length_nil, List.length_map, List.length_take, List.length_drop, List.length_set]; omega)) ?_
        refine ex_call (by exact c_EqTx x y (hao x (List.mem_of_getElem? ex)) (hbo y (List.mem_of_getElem? ey))) ?_
        cases hxy : decide (x = y)
        · rw [decide_eq_false (ne_of_get ex ey (of_decide_eq_false hxy))]
          simp only [go_sem, ↓reduceIte, Nat.reduceLT, Nat.reduceLeDiff, Nat.reduceAdd, Nat.reduceSub, Nat.reduceMul, Nat.reduceEqDiff, Nat.reduceBEq, Nat.reduceMod, Nat.reduceDiv, Int.reduceToNat, reduceCtorEq, Int.reduceLT, Int.reduceLE, Int.reduceGT, Int.reduceGE, Int.reduceAdd, Int.reduceSub, Int.reduceMul, Int.reduceNeg, Int.reduceEq, Int.reduceNe, Int.reduceBNe, Int.reduceBEq, Int.reduceDiv]
          refine finOne ?_ (fun _ e => by cases e)
          show resOf _ _ [.tmp 4] = _
          simp only [go_sem, ↓reduceIte, Nat.reduceLT, Nat.reduceLeDiff, Nat.reduceAdd, Nat.reduceSub, Nat.reduceMul, Nat.reduceEqDiff, Nat.reduceBEq, Nat.reduceMod, Nat.reduceDiv, Int.reduceToNat, reduceCtorEq, Int.reduceLT, Int.reduceLE, Int.reduceGT, Int.reduceGE, Int.reduceAdd, Int.reduceSub, Int.reduceMul, Int.reduceNeg, Int.reduceEq, Int.reduceNe, Int.reduceBNe, Int.reduceBEq, Int.reduceDiv]
        · have hxy := of_decide_eq_true hxy
          subst hxy
          simp only [go_sem, ↓reduceIte, Nat.reduceLT, Nat.reduceLeDiff, Nat.reduceAdd, Nat.reduceSub, Nat.reduceMul, Nat.reduceEqDiff, Nat.reduceBEq, Nat.reduceMod, Nat.reduceDiv, Int.reduceToNat, reduceCtorEq, Int.reduceLT, Int.reduceLE, Int.reduceGT, Int.reduceGE, Int.reduceAdd, Int.reduceSub, Int.reduceMul, Int.reduceNeg, Int.reduceEq, Int.reduceNe, Int.reduceBNe, Int.reduceBEq, Int.reduceDiv]
          refine next (i + 1) _ ⟨by omega, take_eq_succ ht ex ey⟩ (by omega) ?_
          rw [← wi64_nat i (by omega)]
          simp only [ASt.keep, consIf, keepL, keepV, AV.isBot, List.contains_cons, List.contains_nil, Nat.reduceBEq, Bool.or_false, Bool.false_or, Bool.or_true, Bool.true_or, beq_self_eq_true, Bool.false_eq_true, ↓reduceIte, if_false, if_true]
      · have hge : i = a.length := by simp at h; omega
        rw [decide_eq_true (eq_of_takes hl hge ht)]
        simp only [go_sem, ↓reduceIte, Nat.reduceLT, Nat.reduceLeDiff, Nat.reduceAdd, Nat.reduceSub, Nat.reduceMul, Nat.reduceEqDiff, Nat.reduceBEq, Nat.reduceMod, Nat.reduceDiv, Int.reduceToNat, reduceCtorEq, Int.reduceLT, Int.reduceLE, Int.reduceGT, Int.reduceGE, Int.reduceAdd, Int.reduceSub, Int.reduceMul, Int.reduceNeg, Int.reduceEq, Int.reduceNe, Int.reduceBNe, Int.reduceBEq, Int.reduceDiv]
        refine finOne ?_ (fun _ e => by cases e)
        show resOf _ _ [.tmp 4] = _
        simp only [go_sem, ↓reduceIte, Nat.reduceLT, Nat.reduceLeDiff, Nat.reduceAdd, Nat.reduceSub, Nat.reduceMul, Nat.reduceEqDiff, Nat.reduceBEq, Nat.reduceMod, Nat.reduceDiv, Int.reduceToNat, reduceCtorEq, Int.reduceLT, Int.reduceLE, Int.reduceGT, Int.reduceGE, Int.reduceAdd, Int.reduceSub, Int.reduceMul, Int.reduceNeg, Int.reduceEq, Int.reduceNe, Int.reduceBNe, Int.reduceBEq, Int.reduceDiv]
theorem all_take_succ {α : Type} {p : α → Bool} {l : List α} {i : Nat} {x : α} (h : (l.take i).all p = true) (ex : l[i]? = some x) (hx : p x = true) : (l.take (i + 1)).all p = true := by
  rw [List.take_add_one, ex, List.all_append, h]
  simp [hx]
theorem all_false_of {α : Type} {p : α → Bool} {l : List α} {i : Nat} {x : α} (ex : l[i]? = some x) (hx : p x = false) : l.all p = false := by
  rw [Bool.eq_false_iff]
  intro e
  have := List.all_eq_true.1 e x (List.mem_of_getElem? ex)
  rw [hx] at this
  cases this
theorem c_ref7_Txs (l : List TxD) (hl : l.length * 200 ≤ reachBytes) (hok : ∀ a ∈ l, a.ok) : Contract Try.prog 81 [txs l] (.bool (l.all validTx)) := by
  unfold reachBytes at hl
  refine contract_of (C := cf 16 [0, 2, 3, 7, 15] (fun _ => [])) (cf_ok _ _ _) (fn := Try.f81) Try.func81 (by kernel_rfl) rfl (by kernel_rfl) (by simp [cf]) (plain1 (txs_plain l)) (by decide) (noCell (by kernel_rfl)) ?_
  simp only [go_sem, ↓reduceIte, Nat.reduceLT, Nat.reduceLeDiff, Nat.reduceAdd, Nat.reduceSub, Nat.reduceMul, Nat.reduceEqDiff, Nat.reduceBEq, Nat.reduceMod, Nat.reduceDiv, Int.reduceToNat, reduceCtorEq, Int.reduceLT, Int.reduceLE, Int.reduceGT, Int.reduceGE, Int.reduceAdd, Int.reduceSub, Int.reduceMul, Int.reduceNeg, Int.reduceEq, Int.reduceNe, Int.reduceBNe, Int.reduceBEq, Int.reduceDiv, txs]
  refine ex_iter [0, 3] (fun i : Nat => ⟨[(0, .sl false 21 (l.map TxD.av)), (3, .int .i64 i)], [], []⟩) (fun i => i ≤ l.length ∧ (l.take i).all validTx = true) (fun i => l.length - i) 0 ?_ ?_ ?_
  · simp only [ASt.keep, consIf, keepL, keepV, AV.isBot, List.contains_cons, List.contains_nil, Nat.reduceBEq, Bool.or_false, Bool.false_or, Bool.or_true, Bool.true_or, beq_self_eq_true, Bool.false_eq_true, ↓reduceIte, if_false, if_true]
    rfl
  · exact ⟨Nat.zero_le _, by simp⟩
  · rintro n i ⟨hi, hall⟩ next
    simp only [go_sem, ↓reduceIte, Nat.reduceLT, Nat.reduceLeDiff, Nat.reduceAdd, Nat.reduceSub, Nat.reduceMul, Nat.reduceEqDiff, Nat.reduceBEq, Nat.reduceMod, Nat.reduceDiv, Int.reduceToNat, reduceCtorEq, Int.reduceLT, Int.reduceLE, Int.reduceGT, Int.reduceGE, Int.reduceAdd, Int.reduceSub, Int.reduceMul, Int.reduceNeg, Int.reduceEq, Int.reduceNe, Int.reduceBNe, Int.reduceBEq, Int.reduceDiv, List.length_map]
    refine ex_br (fun h => ?_) (fun h => ?_)
    · have hlt : i < l.length := by simpa using h
      obtain ⟨x, ex⟩ : ∃ x, l[i]? = some x := ⟨_, List.getElem?_eq_getElem hlt⟩
      simp only [go_sem, ↓reduceIte, Nat.reduceLT, Nat.reduceLeDiff, Nat.reduceAdd, Nat.reduceSub, Nat.reduceMul, Nat.reduceEqDiff, Nat.reduceBEq, Nat.reduceMod, Nat.reduceDiv, Int.reduceToNat, reduceCtorEq, Int.reduceLT, Int.reduceLE, Int.reduceGT, Int.reduceGE, Int.reduceAdd, Int.reduceSub, Int.reduceMul, Int.reduceNeg, Int.reduceEq, Int.reduceNe, Int.reduceBNe, Int.reduceBEq, Int.reduceDiv, List.length_map, List.getElem?_map, ex, Int.toNat_natCast, TxD.av]
      repeat with_reducible refine And.intro (by first | omega | (simp only [List.length_cons, List.length_append, List.length_nil, List.length_map, List.length_take, List.length_drop, List.length_set]; omega)) ?_
      refine ex_call (by exact c_ref7_Tx x (hok x (List.mem_of_getElem? ex))) ?_
      cases hv : validTx x
      · rw [all_false_of ex hv]
        simp only [go_sem, ↓reduceIte, Nat.reduceLT, Nat.reduceLeDiff, Nat.reduceAdd, Nat.reduceSub, Nat.reduceMul, Nat.reduceEqDiff, Nat.reduceBEq, Nat.reduceMod, Nat.reduceDiv, Int.reduceToNat, reduceCtorEq, Int.reduceLT, Int.reduceLE, Int.reduceGT, Int.reduceGE, Int.reduceAdd, Int.reduceSub, Int.reduceMul, Int.reduceNeg, Int.reduceEq, Int.reduceNe, Int.reduceBNe, Int.reduceBEq, Int.reduceDiv]
        refine finOne ?_ (fun _ e => by cases e)
        show resOf _ _ [.tmp 2] = _
        simp only [go_sem, ↓reduceIte, Nat.reduceLT, Nat.reduceLeDiff, Nat.reduceAdd, Nat.reduceSub, Nat.reduceMul, Nat.reduceEqDiff, Nat.reduceBEq, Nat.reduceMod, Nat.reduceDiv, Int.reduceToNat, reduceCtorEq, Int.reduceLT, Int.reduceLE, Int.reduceGT, Int.reduceGE, Int.reduceAdd, Int.reduceSub, Int.reduceMul, Int.reduceNeg, Int.reduceEq, Int.reduceNe, Int.reduceBNe, Int.reduceBEq, Int.reduceDiv]
      · simp only [go_sem, ↓reduceIte, Nat.reduceLT, Nat.reduceLeDiff, Nat.reduceAdd, Nat.reduceSub, Nat.reduceMul, Nat.reduceEqDiff, Nat.reduceBEq, Nat.reduceMod, Nat.reduceDiv, Int.reduceToNat, reduceCtorEq, Int.reduceLT, Int.reduceLE, Int.reduceGT, Int.reduceGE, Int.reduceAdd, Int.reduceSub, Int.reduceMul, Int.reduceNeg, Int.reduceEq, Int.reduceNe, Int.reduceBNe, Int.reduceBEq, Int.reduceDiv]
        refine next (i + 1) _ ⟨by omega, all_take_succ hall ex hv⟩ (by omega) ?_
        rw [← wi64_nat i (by omega)]
        simp only [ASt.keep, consIf, keepL, keepV, AV.isBot, List.contains_cons, List.contains_nil, Nat.reduceBEq, Bool.or_false, Bool.false_or, Bool.or_true, Bool.true_or, beq_self_eq_true, Bool.false_eq_true, ↓reduceIte, if_false, if_true]
    · have hge : i = l.length := by simp at h; omega
      subst hge
      rw [List.take_length] at hall
      rw [hall]
      simp only [go_sem, ↓reduceIte, Nat.reduceLT, Nat.reduceLeDiff, Nat.reduceAdd, Nat.reduceSub, Nat.reduceMul, Nat.reduceEqDiff, Nat.reduceBEq, Nat.reduceMod, Nat.reduceDiv, Int.reduceToNat, reduceCtorEq, Int.reduceLT, Int.reduceLE, Int.reduceGT, Int.reduceGE, Int.reduceAdd, Int.reduceSub, Int.reduceMul, Int.reduceNeg, Int.reduceEq, Int.reduceNe, Int.reduceBNe, Int.reduceBEq, Int.reduceDiv]
      refine finOne ?_ (fun _ e => by cases e)
      show resOf _ _ [.tmp 2] = _
      simp only [go_sem, ↓reduceIte, Nat.reduceLT, Nat.reduceLeDiff, Nat.reduceAdd, Nat.reduceSub, Nat.reduceMul, Nat.reduceEqDiff, Nat.reduceBEq, Nat.reduceMod, Nat.reduceDiv, Int.reduceToNat, reduceCtorEq, Int.reduceLT, Int.reduceLE, Int.reduceGT, Int.reduceGE, Int.reduceAdd, Int.reduceSub, Int.reduceMul, Int.reduceNeg, Int.reduceEq, Int.reduceNe, Int.reduceBNe, Int.reduceBEq, Int.reduceDiv]

def weighs : Int → List TxD → Int
  | n, [] => n
  | n, t :: ts => if n < 1048576 then weighs (n + weightOf t) ts else n
theorem weighs_drop {n : Int} {l : List TxD} {i : Nat} {t : TxD} (e : l[i]? = some t) (h : n < 1048576) : weighs n (l.drop i) = weighs (n + weightOf t) (l.drop (i + 1)) := by
  obtain ⟨hi, rfl⟩ := List.getElem?_eq_some_iff.1 e
  rw [← List.getElem_cons_drop hi]
  simp only [weighs, if_pos h]
theorem weighs_end {n : Int} {l : List TxD} (h : ¬ n < 1048576) : weighs n l = n := by
  cases l with
  | nil => rfl
  | cons b bs => simp only [weighs, if_neg h]
theorem c_TxsWeight (l : List TxD) (hl : l.length * 200 ≤ reachBytes) (hok : ∀ a ∈ l, a.ok) : Contract Try.prog 80 [txs l] (.int .i64 (weighs l.length l)) := by
  unfold reachBytes at hl
  refine contract_of (C := cf 25 [0, 2, 3, 4, 14] (fun _ => [])) (cf_ok _ _ _) (fn := Try.f80) Try.func80 (by kernel_rfl) rfl (by kernel_rfl) (by simp [cf]) (plain1 (txs_plain l)) (by decide) (noCell (by kernel_rfl)) ?_
  simp only [go_sem, ↓reduceIte, Nat.reduceLT, Nat.reduceLeDiff, Nat.reduceAdd, Nat.reduceSub, Nat.reduceMul, Nat.reduceEqDiff, Nat.reduceBEq, Nat.reduceMod, Nat.reduceDiv, Int.reduceToNat, reduceCtorEq, Int.reduceLT, Int.reduceLE, Int.reduceGT, Int.reduceGE, Int.reduceAdd, Int.reduceSub, Int.reduceMul, Int.reduceNeg, Int.reduceEq, Int.reduceNe, Int.reduceBNe, Int.reduceBEq, Int.reduceDiv, txs, List.length_map]
  refine ex_iter [0, 3, 4] (fun q : Nat × Int => ⟨[(0, .sl false 21 (l.map TxD.av)), (3, .int .i64 q.2), (4, .int .i64 q.1)], [], []⟩)
    (fun q => q.1 ≤ l.length ∧ 0 ≤ q.2 ∧ q.2 ≤ 1281474976710656 ∧ weighs q.2 (l.drop q.1) = weighs l.length l) (fun q => l.length - q.1) (0, (l.length : Int)) ?_ ?_ ?_
  · simp only [ASt.keep, consIf, keepL, keepV, AV.isBot, List.contains_cons, List.contains_nil, Nat.reduceBEq, Bool.or_false, Bool.false_or, Bool.or_true, Bool.true_or, beq_self_eq_true, Bool.false_eq_true, ↓reduceIte, if_false, if_true]
    rfl
  · exact ⟨Nat.zero_le _, by simp only; omega, by simp only; omega, rfl⟩
  · rintro r ⟨i, n⟩ hinv next
    obtain ⟨hi, hn1, hn2, hw⟩ : i ≤ l.length ∧ 0 ≤ n ∧ n ≤ 1281474976710656 ∧ weighs n (l.drop i) = weighs l.length l := hinv
    simp only [go_sem, ↓reduceIte, Nat.reduceLT, Nat.reduceLeDiff, Nat.reduceAdd, Nat.reduceSub, Nat.reduceMul, Nat.reduceEqDiff, Nat.reduceBEq, Nat.reduceMod, Nat.reduceDiv, Int.reduceToNat, reduceCtorEq, Int.reduceLT, Int.reduceLE, Int.reduceGT, Int.reduceGE, Int.reduceAdd, Int.reduceSub, Int.reduceMul, Int.reduceNeg, Int.reduceEq, Int.reduceNe, Int.reduceBNe, Int.reduceBEq, Int.reduceDiv, List.length_map]
    refine ex_joinB 14 (decide (i < l.length) && decide (n < 1048576)) ?_ ?_
    · repeat' (first | (refine ex_split (fun h => ?_) (fun h => ?_)) | (with_reducible refine And.intro (by omega) ?_) |
        (simp only [go_sem, ↓reduceIte, Nat.reduceLT, Nat.reduceLeDiff, Nat.reduceAdd, Nat.reduceSub, Nat.reduceMul, Nat.reduceEqDiff, Nat.reduceBEq, Nat.reduceMod, Nat.reduceDiv, Int.reduceToNat, reduceCtorEq, Int.reduceLT, Int.reduceLE, Int.reduceGT, Int.reduceGE, Int.reduceAdd, Int.reduceSub, Int.reduceMul, Int.reduceNeg, Int.reduceEq, Int.reduceNe, Int.reduceBNe, Int.reduceBEq, Int.reduceDiv, List.length_map]))
      all_goals (try simp only [ASt.mk.injEq, List.cons.injEq, Prod.mk.injEq, AV.bool.injEq, true_and, and_true, eq_self])
      all_goals first | (simp_all; done) | (simp_all; omega) | (rw [Bool.eq_iff_iff]; simp only [List.length_map, Bool.or_eq_true, Bool.and_eq_true, Bool.not_eq_true', Bool.not_eq_false', decide_eq_true_eq, decide_eq_false_iff_not, bne_iff_ne, beq_iff_eq, ne_eq, true_iff, iff_true, false_iff, iff_false, Bool.false_eq_true, not_false_eq_true, not_true_eq_false] at *; omega)
    simp only [go_sem, ↓reduceIte, Nat.reduceLT, Nat.reduceLeDiff, Nat.reduceAdd, Nat.reduceSub, Nat.reduceMul, Nat.reduceEqDiff, Nat.reduceBEq, Nat.reduceMod, Nat.reduceDiv, Int.reduceToNat, reduceCtorEq, Int.reduceLT, Int.reduceLE, Int.reduceGT, Int.reduceGE, Int.reduceAdd, Int.reduceSub, Int.reduceMul, Int.reduceNeg, Int.reduceEq, Int.reduceNe, Int.reduceBNe, Int.reduceBEq, Int.reduceDiv]
    refine ex_br (fun hc => ?_) (fun hc => ?_)
    · have hlt : i < l.length ∧ n < 1048576 := by simpa using hc
      obtain ⟨b, eb⟩ : ∃ b, l[i]? = some b := ⟨_, List.getElem?_eq_getElem hlt.1⟩
      have hbok := hok b (List.mem_of_getElem? eb)
      have hb := weightOf_bounds b hbok
      have w3 : IntKind.i64.wrap (n + weightOf b) = n + weightOf b := wi64 (by omega) (by omega)
      simp only [go_sem, ↓reduceIte, Nat.reduceLT, Nat.reduceLeDiff, Nat.reduceAdd, Nat.reduceSub, Nat.reduceMul, Nat.reduceEqDiff, Nat.reduceBEq, Nat.reduceMod, Nat.reduceDiv, Int.reduceToNat, reduceCtorEq, Int.reduceLT, Int.reduceLE, Int.reduceGT, Int.reduceGE, Int.reduceAdd, Int.reduceSub, Int.reduceMul, Int.reduceNeg, Int.reduceEq, Int.reduceNe, Int.reduceBNe, Int.reduceBEq, Int.reduceDiv, List.length_map, List.getElem?_map, eb, Int.toNat_natCast, TxD.av]
      repeat with_reducible refine And.intro (by first | omega | (simp only [List.length_cons, List.length_append, List.length_nil, List.length_map, List.length_take, List.length_drop, List.length_set]; omega)) ?_
      refine ex_call (by exact c_TxWeight b hbok) ?_
      simp only [go_sem, ↓reduceIte, Nat.reduceLT, Nat.reduceLeDiff, Nat.reduceAdd, Nat.reduceSub, Nat.reduceMul, Nat.reduceEqDiff, Nat.reduceBEq, Nat.reduceMod, Nat.reduceDiv, Int.reduceToNat, reduceCtorEq, Int.reduceLT, Int.reduceLE, Int.reduceGT, Int.reduceGE, Int.reduceAdd, Int.reduceSub, Int.reduceMul, Int.reduceNeg, Int.reduceEq, Int.reduceNe, Int.reduceBNe, Int.reduceBEq, Int.reduceDiv, w3]
      refine next (i + 1, n + weightOf b) _ ⟨by simp only; omega, by simp only; omega, by simp only; omega, by simp only; rw [← weighs_drop eb hlt.2]; exact hw⟩ (by simp only; omega) ?_
      simp only
      rw [← wi64_nat i (by omega)]
      simp only [ASt.keep, consIf, keepL, keepV, AV.isBot, List.contains_cons, List.contains_nil, Nat.reduceBEq, Bool.or_false, Bool.false_or, Bool.or_true, Bool.true_or, beq_self_eq_true, Bool.false_eq_true, ↓reduceIte, if_false, if_true]
    · have e : weighs l.length l = n := by
        rw [← hw]
        rcases Nat.lt_or_ge i l.length with h1 | h1
        · refine weighs_end ?_
          simp at hc
          have := hc (by omega)
          omega
        · rw [List.drop_eq_nil_of_le (by omega)]; rfl
      rw [e]
      simp only [go_sem, ↓reduceIte, Nat.reduceLT, Nat.reduceLeDiff, Nat.reduceAdd, Nat.reduceSub, Nat.reduceMul, Nat.reduceEqDiff, Nat.reduceBEq, Nat.reduceMod, Nat.reduceDiv, Int.reduceToNat, reduceCtorEq, Int.reduceLT, Int.reduceLE, Int.reduceGT, Int.reduceGE, Int.reduceAdd, Int.reduceSub, Int.reduceMul, Int.reduceNeg, Int.reduceEq, Int.reduceNe, Int.reduceBNe, Int.reduceBEq, Int.reduceDiv]
      refine finOne ?_ (fun _ e => by cases e)
      show resOf _ _ [.tmp 2] = _
      simp only [go_sem, ↓reduceIte, Nat.reduceLT, Nat.reduceLeDiff, Nat.reduceAdd, Nat.reduceSub, Nat.reduceMul, Nat.reduceEqDiff, Nat.reduceBEq, Nat.reduceMod, Nat.reduceDiv, Int.reduceToNat, reduceCtorEq, Int.reduceLT, Int.reduceLE, Int.reduceGT, Int.reduceGE, Int.reduceAdd, Int.reduceSub, Int.reduceMul, Int.reduceNeg, Int.reduceEq, Int.reduceNe, Int.reduceBNe, Int.reduceBEq, Int.reduceDiv]
end Go.Proofs.Ytpepfhbfooeoeaa.VA
end
section
/- Numbers of 256 bits as bytes. -/
namespace Go.Proofs.Ytpepfhbfooeoeaa.VA
set_option maxRecDepth 10000
set_option linter.unusedSimpArgs false
set_option linter.unusedVariables false
set_option maxHeartbeats 4000000

theorem wi64n (n : Nat) (h : n < 9223372036854775808) : IntKind.i64.wrap (n : Int) = (n : Int) := wi64 (by omega) (by omega)
theorem c_u256_Bits (n : Nat) (hn : n < U) : Contract Try.prog 136 [u n] (.int .i64 (bitsOf n)) := by
  have hc := c_u256_limbs n hn
  obtain ⟨s0, s1, s2, s3, h0, h1, h2, h3, en⟩ := u_limbs n hn
  have hle : bitsOf n ≤ 256 := (bits_le n 256).2 (by unfold U at hn; omega)
  have hb := bits_le n 0
  have hb1 := bits_le n 64
  have hb2 := bits_le n 128
  have hb3 := bits_le n 192
  have hl : limbsOf n = (bitsOf n + 63) / 64 := rfl
  rw [u_eq h0 h1 h2 h3 en] at hc ⊢
  refine contract_of (C := cf 17 [1, 2, 3, 7] (fun _ => [])) (cf_ok _ _ _) (fn := Try.f136) Try.func136 (by kernel_rfl) rfl (by kernel_rfl) (by simp [cf]) (plain1 (u4_plain _ _ _ _)) (by decide) (noCell (by kernel_rfl)) ?_
  simp only [go_sem, ↓reduceIte, Nat.reduceLT, Nat.reduceLeDiff, Nat.reduceAdd, Nat.reduceSub, Nat.reduceMul, Nat.reduceEqDiff, Nat.reduceBEq, Nat.reduceMod, Nat.reduceDiv, Int.reduceToNat, reduceCtorEq, Int.reduceLT, Int.reduceLE, Int.reduceGT, Int.reduceGE, Int.reduceAdd, Int.reduceSub, Int.reduceMul, Int.reduceNeg, Int.reduceEq, Int.reduceNe, Int.reduceBNe, Int.reduceBEq, Int.reduceDiv]
  refine ex_call (by exact hc) ?_
  have d1 := bits_div n 64
  have d2 := bits_div n 128
  have d3 := bits_div n 192
  obtain e | e | e | e | e : limbsOf n = 0 ∨ limbsOf n = 1 ∨ limbsOf n = 2 ∨ limbsOf n = 3 ∨ limbsOf n = 4 := by omega
  · rw [show (limbsOf n : Int) = 0 by omega]
    simp only [go_sem, ↓reduceIte, Nat.reduceLT, Nat.reduceLeDiff, Nat.reduceAdd, Nat.reduceSub, Nat.reduceMul, Nat.reduceEqDiff, Nat.reduceBEq, Nat.reduceMod, Nat.reduceDiv, Int.reduceToNat, reduceCtorEq, Int.reduceLT, Int.reduceLE, Int.reduceGT, Int.reduceGE, Int.reduceAdd, Int.reduceSub, Int.reduceMul, Int.reduceNeg, Int.reduceEq, Int.reduceNe, Int.reduceBNe, Int.reduceBEq, Int.reduceDiv]
    have e0 : (bitsOf n : Int) = 0 := by omega
    rw [e0]
    refine finOne ?_ (fun _ e => by cases e)
    show resOf _ _ [.tmp 2] = _
    simp only [go_sem, ↓reduceIte, Nat.reduceLT, Nat.reduceLeDiff, Nat.reduceAdd, Nat.reduceSub, Nat.reduceMul, Nat.reduceEqDiff, Nat.reduceBEq, Nat.reduceMod, Nat.reduceDiv, Int.reduceToNat, reduceCtorEq, Int.reduceLT, Int.reduceLE, Int.reduceGT, Int.reduceGE, Int.reduceAdd, Int.reduceSub, Int.reduceMul, Int.reduceNeg, Int.reduceEq, Int.reduceNe, Int.reduceBNe, Int.reduceBEq, Int.reduceDiv]
  · rw [show (limbsOf n : Int) = 1 by omega]
    have e0 : n = s0 := by omega
    have w : IntKind.i64.wrap (0 + (bitsOf s0 : Int)) = bitsOf n := by rw [← e0, wi64 (by omega) (by omega)]; omega
    rw [Int.zero_add] at w
    simp only [go_sem, ↓reduceIte, Nat.reduceLT, Nat.reduceLeDiff, Nat.reduceAdd, Nat.reduceSub, Nat.reduceMul, Nat.reduceEqDiff, Nat.reduceBEq, Nat.reduceMod, Nat.reduceDiv, Int.reduceToNat, reduceCtorEq, Int.reduceLT, Int.reduceLE, Int.reduceGT, Int.reduceGE, Int.reduceAdd, Int.reduceSub, Int.reduceMul, Int.reduceNeg, Int.reduceEq, Int.reduceNe, Int.reduceBNe, Int.reduceBEq, Int.reduceDiv, wi0, wi1, wi2, wi3]
    repeat with_reducible refine And.intro (by first | omega | (simp only [List.length_cons, List.length_append, List.length_nil, List.length_map, List.length_take, List.length_drop, List.length_set]; omega)) ?_
    refine ex_call (by exact c_Len64 s0 h0) ?_
    simp only [go_sem, ↓reduceIte, Nat.reduceLT, Nat.reduceLeDiff, Nat.reduceAdd, Nat.reduceSub, Nat.reduceMul, Nat.reduceEqDiff, Nat.reduceBEq, Nat.reduceMod, Nat.reduceDiv, Int.reduceToNat, reduceCtorEq, Int.reduceLT, Int.reduceLE, Int.reduceGT, Int.reduceGE, Int.reduceAdd, Int.reduceSub, Int.reduceMul, Int.reduceNeg, Int.reduceEq, Int.reduceNe, Int.reduceBNe, Int.reduceBEq, Int.reduceDiv, w, Int.zero_add]
    refine finOne ?_ (fun _ e => by cases e)
    show resOf _ _ [.tmp 2] = _
    simp only [go_sem, ↓reduceIte, Nat.reduceLT, Nat.reduceLeDiff, Nat.reduceAdd, Nat.reduceSub, Nat.reduceMul, Nat.reduceEqDiff, Nat.reduceBEq, Nat.reduceMod, Nat.reduceDiv, Int.reduceToNat, reduceCtorEq, Int.reduceLT, Int.reduceLE, Int.reduceGT, Int.reduceGE, Int.reduceAdd, Int.reduceSub, Int.reduceMul, Int.reduceNeg, Int.reduceEq, Int.reduceNe, Int.reduceBNe, Int.reduceBEq, Int.reduceDiv]
  · rw [show (limbsOf n : Int) = 2 by omega]
    have e0 : n / 2 ^ 64 = s1 := by omega
    have w : IntKind.i64.wrap (64 + (bitsOf s1 : Int)) = bitsOf n := by rw [← e0, wi64 (by omega) (by omega)]; omega
    simp only [go_sem, ↓reduceIte, Nat.reduceLT, Nat.reduceLeDiff, Nat.reduceAdd, Nat.reduceSub, Nat.reduceMul, Nat.reduceEqDiff, Nat.reduceBEq, Nat.reduceMod, Nat.reduceDiv, Int.reduceToNat, reduceCtorEq, Int.reduceLT, Int.reduceLE, Int.reduceGT, Int.reduceGE, Int.reduceAdd, Int.reduceSub, Int.reduceMul, Int.reduceNeg, Int.reduceEq, Int.reduceNe, Int.reduceBNe, Int.reduceBEq, Int.reduceDiv, wi0, wi1, wi2, wi3, wi64k]
    repeat with_reducible refine And.intro (by first | omega | (simp only [List.length_cons, List.length_append, List.length_nil, List.length_map, List.length_take, List.length_drop, List.length_set]; omega)) ?_
    refine ex_call (by exact c_Len64 s1 h1) ?_
    simp only [go_sem, ↓reduceIte, Nat.reduceLT, Nat.reduceLeDiff, Nat.reduceAdd, Nat.reduceSub, Nat.reduceMul, Nat.reduceEqDiff, Nat.reduceBEq, Nat.reduceMod, Nat.reduceDiv, Int.reduceToNat, reduceCtorEq, Int.reduceLT, Int.reduceLE, Int.reduceGT, Int.reduceGE, Int.reduceAdd, Int.reduceSub, Int.reduceMul, Int.reduceNeg, Int.reduceEq, Int.reduceNe, Int.reduceBNe, Int.reduceBEq, Int.reduceDiv, w]
    refine finOne ?_ (fun _ e => by cases e)
    show resOf _ _ [.tmp 2] = _
    simp only [go_sem, ↓reduceIte, Nat.reduceLT, Nat.reduceLeDiff, Nat.reduceAdd, Nat.reduceSub, Nat.reduceMul, Nat.reduceEqDiff, Nat.reduceBEq, Nat.reduceMod, Nat.reduceDiv, Int.reduceToNat, reduceCtorEq, Int.reduceLT, Int.reduceLE, Int.reduceGT, Int.reduceGE, Int.reduceAdd, Int.reduceSub, Int.reduceMul, Int.reduceNeg, Int.reduceEq, Int.reduceNe, Int.reduceBNe, Int.reduceBEq, Int.reduceDiv]
  · rw [show (limbsOf n : Int) = 3 by omega]
    have e0 : n / 2 ^ 128 = s2 := by omega
    have w : IntKind.i64.wrap (128 + (bitsOf s2 : Int)) = bitsOf n := by rw [← e0, wi64 (by omega) (by omega)]; omega
    simp only [go_sem, ↓reduceIte, Nat.reduceLT, Nat.reduceLeDiff, Nat.reduceAdd, Nat.reduceSub, Nat.reduceMul, Nat.reduceEqDiff, Nat.reduceBEq, Nat.reduceMod, Nat.reduceDiv, Int.reduceToNat, reduceCtorEq, Int.reduceLT, Int.reduceLE, Int.reduceGT, Int.reduceGE, Int.reduceAdd, Int.reduceSub, Int.reduceMul, Int.reduceNeg, Int.reduceEq, Int.reduceNe, Int.reduceBNe, Int.reduceBEq, Int.reduceDiv, wi0, wi1, wi2, wi3, wi128k]
    repeat with_reducible refine And.intro (by first | omega | (simp only [List.length_cons, List.length_append, List.length_nil, List.length_map, List.length_take, List.length_drop, List.length_set]; omega)) ?_
    refine ex_call (by exact c_Len64 s2 h2) ?_
    simp only [go_sem, ↓reduceIte, Nat.reduceLT, Nat.reduceLeDiff, Nat.reduceAdd, Nat.reduceSub, Nat.reduceMul, Nat.reduceEqDiff, Nat.reduceBEq, Nat.reduceMod, Nat.reduceDiv, Int.reduceToNat, reduceCtorEq, Int.reduceLT, Int.reduceLE, Int.reduceGT, Int.reduceGE, Int.reduceAdd, Int.reduceSub, Int.reduceMul, Int.reduceNeg, Int.reduceEq, Int.reduceNe, Int.reduceBNe, Int.reduceBEq, Int.reduceDiv, w]
    refine finOne ?_ (fun _ e => by cases e)
    show resOf _ _ [.tmp 2] = _
    simp only [go_sem, ↓reduceIte, Nat.reduceLT, Nat.reduceLeDiff, Nat.reduceAdd, Nat.reduceSub, Nat.reduceMul, Nat.reduceEqDiff, Nat.reduceBEq, Nat.reduceMod, Nat.reduceDiv, Int.reduceToNat, reduceCtorEq, Int.reduceLT, Int.reduceLE, Int.reduceGT, Int.reduceGE, Int.reduceAdd, Int.reduceSub, Int.reduceMul, Int.reduceNeg, Int.reduceEq, Int.reduceNe, Int.reduceBNe, Int.reduceBEq, Int.reduceDiv]
  · rw [show (limbsOf n : Int) = 4 by omega]
    have e0 : n / 2 ^ 192 = s3 := by omega
    have w : IntKind.i64.wrap (192 + (bitsOf s3 : Int)) = bitsOf n := by rw [← e0, wi64 (by omega) (by omega)]; omega
    simp only [go_sem, ↓reduceIte, Nat.reduceLT, Nat.reduceLeDiff, Nat.reduceAdd, Nat.reduceSub, Nat.reduceMul, Nat.reduceEqDiff, Nat.reduceBEq, Nat.reduceMod, Nat.reduceDiv, Int.reduceToNat, reduceCtorEq, Int.reduceLT, Int.reduceLE, Int.reduceGT, Int.reduceGE, Int.reduceAdd, Int.reduceSub, Int.reduceMul, Int.reduceNeg, Int.reduceEq, Int.reduceNe, Int.reduceBNe, Int.reduceBEq, Int.reduceDiv, wi0, wi1, wi2, wi3, wi192k]
    repeat with_reducible refine And.intro (by first | omega | (simp only [List.length_cons, List.length_append, List.length_nil, List.length_map, List.length_take, List.length_drop, List.length_set]; omega)) ?_
    refine ex_call (by exact c_Len64 s3 h3) ?_
    simp only [go_sem, ↓reduceIte, Nat.reduceLT, Nat.reduceLeDiff, Nat.reduceAdd, Nat.reduceSub, Nat.reduceMul, Nat.reduceEqDiff, Nat.reduceBEq, Nat.reduceMod, Nat.reduceDiv, Int.reduceToNat, reduceCtorEq, Int.reduceLT, Int.reduceLE, Int.reduceGT, Int.reduceGE, Int.reduceAdd, Int.reduceSub, Int.reduceMul, Int.reduceNeg, Int.reduceEq, Int.reduceNe, Int.reduceBNe, Int.reduceBEq, Int.reduceDiv, w]
    refine finOne ?_ (fun _ e => by cases e)
    show resOf _ _ [.tmp 2] = _
    simp only [go_sem, ↓reduceIte, Nat.reduceLT, Nat.reduceLeDiff, Nat.reduceAdd, Nat.reduceSub, Nat.reduceMul, Nat.reduceEqDiff, Nat.reduceBEq, Nat.reduceMod, Nat.reduceDiv, Int.reduceToNat, reduceCtorEq, Int.reduceLT, Int.reduceLE, Int.reduceGT, Int.reduceGE, Int.reduceAdd, Int.reduceSub, Int.reduceMul, Int.reduceNeg, Int.reduceEq, Int.reduceNe, Int.reduceBNe, Int.reduceBEq, Int.reduceDiv]
theorem limb_at (n j : Nat) (h : j < 4) : ([.int .u64 (lim n 0), .int .u64 (lim n 1), .int .u64 (lim n 2), .int .u64 (lim n 3)] : List AV)[j]? = some (.int .u64 (lim n j)) := by
  obtain rfl | rfl | rfl | rfl : j = 0 ∨ j = 1 ∨ j = 2 ∨ j = 3 := by omega
  all_goals rfl
theorem lim_byte (n i : Nat) : (n / 2 ^ (64 * (i / 8)) % 18446744073709551616) / 2 ^ (i % 8 * 8) % 256 = n / 256 ^ i % 256 := by
  have e1 : 18446744073709551616 = 2 ^ (i % 8 * 8) * 2 ^ (64 - i % 8 * 8) := by
    rw [← Nat.pow_add, show i % 8 * 8 + (64 - i % 8 * 8) = 64 by omega]
  have e2 : (256 : Nat) ^ i = 2 ^ (64 * (i / 8)) * 2 ^ (i % 8 * 8) := by
    rw [← Nat.pow_add, show (256 : Nat) = 2 ^ 8 by decide, ← Nat.pow_mul]
    congr 1; omega
  rw [e1, Nat.mod_mul_right_div_self, Nat.div_div_eq_div_mul, ← e2]
  refine Nat.mod_mod_of_dvd _ ?_
  rw [show (256 : Nat) = 2 ^ 8 by decide]
  exact Nat.pow_dvd_pow 2 (by omega)
def fill (n k i : Nat) : List AV := List.replicate (k - i) (u8 0) ++ (low i n).map u8
theorem fill_len {n k i : Nat} (h : i ≤ k) : (fill n k i).length = k := by unfold fill; simp [low_len]; omega
theorem fill_set (n k i : Nat) (h : i < k) : (fill n k i).set (k - 1 - i) (.int .u8 ((n / 256 ^ i % 256 : Nat) : Int)) = fill n k (i + 1) := by
  unfold fill
  rw [show (AV.int .u8 ((n / 256 ^ i % 256 : Nat) : Int)) = u8 (UInt8.ofNat (n / 256 ^ i)) by unfold u8; rw [UInt8.toNat_ofNat']]
  rw [show k - i = (k - (i + 1)) + 1 by omega, List.replicate_succ', List.append_assoc, List.set_append_right _ _ (by simp; omega)]
  simp only [List.length_replicate]
  rw [show k - 1 - i - (k - (i + 1)) = 0 by omega, low]
  rfl
theorem fill_get {n k i j : Nat} (h : i ≤ k) (hj : j < k) : ∃ e, (fill n k i)[j]? = some e := ⟨_, List.getElem?_eq_getElem (by rw [fill_len h]; exact hj)⟩
theorem fill_zero (n k : Nat) : fill n k 0 = List.replicate k (.int .u8 0) := by unfold fill; simp [low, u8]
theorem fill_end (n k : Nat) : fill n k k = (low k n).map u8 := by unfold fill; simp
theorem limb_byte (n i : Nat) : IntKind.u8.wrap ((lim n (i / 8)).fdiv (2 ^ min (i % 8 * 8) 64)) = ((n / 256 ^ i % 256 : Nat) : Int) := by
  unfold lim
  rw [shr_nat _ _ (by omega), ← lim_byte]
  show (((_ : Nat) : Int) % 256 : Int) = _
  omega
theorem c_u256_Text (n : Nat) (hn : n < U) : Contract Try.prog 125 [u n] (.str (bytesOf n)) := by
  have hle : bitsOf n ≤ 256 := (bits_le n 256).2 (by unfold U at hn; omega)
  have hc := c_u256_Bits n hn
  unfold u at hc ⊢
  refine contract_of (C := cf 34 [1, 2, 3, 4, 11, 12, 13] (fun _ => [])) (cf_ok _ _ _) (fn := Try.f125) Try.func125 (by kernel_rfl) rfl (by kernel_rfl) (by simp [cf]) (plain1 (u4_plain _ _ _ _)) (by decide) (noCell (by kernel_rfl)) ?_
  have w1 : IntKind.i64.wrap ((bitsOf n : Int) + 7) = ((bitsOf n + 7 : Nat) : Int) := by rw [wi64 (by omega) (by omega)]; omega
  have w2 : ((bitsOf n + 7 : Nat) : Int).tdiv 8 = (byteLen n : Int) := rfl
  have hbl : byteLen n ≤ 32 := by unfold byteLen; omega
  have w3 := wi64n (byteLen n) (by omega)
  simp only [go_sem, ↓reduceIte, Nat.reduceLT, Nat.reduceLeDiff, Nat.reduceAdd, Nat.reduceSub, Nat.reduceMul, Nat.reduceEqDiff, Nat.reduceBEq, Nat.reduceMod, Nat.reduceDiv, Int.reduceToNat, reduceCtorEq, Int.reduceLT, Int.reduceLE, Int.reduceGT, Int.reduceGE, Int.reduceAdd, Int.reduceSub, Int.reduceMul, Int.reduceNeg, Int.reduceEq, Int.reduceNe, Int.reduceBNe, Int.reduceBEq, Int.reduceDiv]
  refine ex_call (by exact hc) ?_
  simp only [go_sem, ↓reduceIte, Nat.reduceLT, Nat.reduceLeDiff, Nat.reduceAdd, Nat.reduceSub, Nat.reduceMul, Nat.reduceEqDiff, Nat.reduceBEq, Nat.reduceMod, Nat.reduceDiv, Int.reduceToNat, reduceCtorEq, Int.reduceLT, Int.reduceLE, Int.reduceGT, Int.reduceGE, Int.reduceAdd, Int.reduceSub, Int.reduceMul, Int.reduceNeg, Int.reduceEq, Int.reduceNe, Int.reduceBNe, Int.reduceBEq, Int.reduceDiv, w1, w2, w3, Int.toNat_natCast]
  repeat with_reducible refine And.intro (by first | omega | (simp only [List.length_cons, List.length_append, List.length_nil, List.length_map, List.length_take, List.length_drop, List.length_set]; omega)) ?_
  refine ex_iter [1, 3, 11, 12] (fun i : Nat => ⟨[(1, .var 1 0), (3, .own false 1 (fill n (byteLen n) i)), (11, .int .i64 (byteLen n)), (12, .int .i64 i)], [(1, [.int .u64 (lim n 0), .int .u64 (lim n 1), .int .u64 (lim n 2), .int .u64 (lim n 3)])], []⟩) (fun i => i ≤ byteLen n) (fun i => byteLen n - i) 0 ?_ ?_ ?_
  · simp only [ASt.keep, consIf, keepL, keepV, AV.isBot, List.contains_cons, List.contains_nil, Nat.reduceBEq, Bool.or_false, Bool.false_or, Bool.or_true, Bool.true_or, beq_self_eq_true, Bool.false_eq_true, ↓reduceIte, if_false, if_true]
    rw [fill_zero, List.length_replicate]
    rfl
  · exact Nat.zero_le _
  · intro r i hi next
    simp only [go_sem, ↓reduceIte, Nat.reduceLT, Nat.reduceLeDiff, Nat.reduceAdd, Nat.reduceSub, Nat.reduceMul, Nat.reduceEqDiff, Nat.reduceBEq, Nat.reduceMod, Nat.reduceDiv, Int.reduceToNat, reduceCtorEq, Int.reduceLT, Int.reduceLE, Int.reduceGT, Int.reduceGE, Int.reduceAdd, Int.reduceSub, Int.reduceMul, Int.reduceNeg, Int.reduceEq, Int.reduceNe, Int.reduceBNe, Int.reduceBEq, Int.reduceDiv]
    refine ex_br (fun h => ?_) (fun h => ?_)
    · have hlt : i < byteLen n := by simpa using h
      have wq : (i : Int).tdiv 8 = ((i / 8 : Nat) : Int) := rfl
      have wr : (i : Int).tmod 8 = ((i % 8 : Nat) : Int) := rfl
      have wq2 := wi64n (i / 8) (by omega)
      have wm : IntKind.i64.wrap (((i % 8 : Nat) : Int) * 8) = ((i % 8 * 8 : Nat) : Int) := by rw [wi64 (by omega) (by omega)]; omega
      have ws1 : IntKind.i64.wrap ((byteLen n : Int) - 1) = ((byteLen n - 1 : Nat) : Int) := by rw [wi64 (by omega) (by omega)]; omega
      have ws2 : IntKind.i64.wrap (((byteLen n - 1 : Nat) : Int) - (i : Int)) = ((byteLen n - 1 - i : Nat) : Int) := by rw [wi64 (by omega) (by omega)]; omega
      have hlen : (fill n (byteLen n) i).length = byteLen n := fill_len hi
      obtain ⟨e, he⟩ := fill_get (n := n) hi (show byteLen n - 1 - i < byteLen n by omega)
      simp only [go_sem, ↓reduceIte, Nat.reduceLT, Nat.reduceLeDiff, Nat.reduceAdd, Nat.reduceSub, Nat.reduceMul, Nat.reduceEqDiff, Nat.reduceBEq, Nat.reduceMod, Nat.reduceDiv, Int.reduceToNat, reduceCtorEq, Int.reduceLT, Int.reduceLE, Int.reduceGT, Int.reduceGE, Int.reduceAdd, Int.reduceSub, Int.reduceMul, Int.reduceNeg, Int.reduceEq, Int.reduceNe, Int.reduceBNe, Int.reduceBEq, Int.reduceDiv, wq, wr, wq2, wm, ws1, ws2, hlen, Int.toNat_natCast, limb_at n _ (show i / 8 < 4 by omega)]
      repeat with_reducible refine And.intro (by first | omega | (simp only [List.length_cons, List.length_append, List.length_nil, List.length_map, List.length_take, List.length_drop, List.length_set]; omega)) ?_
      simp only [go_sem, ↓reduceIte, Nat.reduceLT, Nat.reduceLeDiff, Nat.reduceAdd, Nat.reduceSub, Nat.reduceMul, Nat.reduceEqDiff, Nat.reduceBEq, Nat.reduceMod, Nat.reduceDiv, Int.reduceToNat, reduceCtorEq, Int.reduceLT, Int.reduceLE, Int.reduceGT, Int.reduceGE, Int.reduceAdd, Int.reduceSub, Int.reduceMul, Int.reduceNeg, Int.reduceEq, Int.reduceNe, Int.reduceBNe, Int.reduceBEq, Int.reduceDiv, wq, wr, wq2, wm, ws1, ws2, hlen, Int.toNat_natCast, he, limb_byte, fill_set n _ _ hlt]
      refine next (i + 1) _ (by omega) (by omega) ?_
      rw [← wi64_nat i (by omega)]
      simp only [ASt.keep, consIf, keepL, keepV, AV.isBot, List.contains_cons, List.contains_nil, Nat.reduceBEq, Bool.or_false, Bool.false_or, Bool.or_true, Bool.true_or, beq_self_eq_true, Bool.false_eq_true, ↓reduceIte, if_false, if_true]
    · have hge : i = byteLen n := by simp at h; omega
      subst hge
      rw [fill_end]
      simp only [go_sem, ↓reduceIte, Nat.reduceLT, Nat.reduceLeDiff, Nat.reduceAdd, Nat.reduceSub, Nat.reduceMul, Nat.reduceEqDiff, Nat.reduceBEq, Nat.reduceMod, Nat.reduceDiv, Int.reduceToNat, reduceCtorEq, Int.reduceLT, Int.reduceLE, Int.reduceGT, Int.reduceGE, Int.reduceAdd, Int.reduceSub, Int.reduceMul, Int.reduceNeg, Int.reduceEq, Int.reduceNe, Int.reduceBNe, Int.reduceBEq, Int.reduceDiv, asU8_map]
      refine finOne ?_ (fun _ e => by cases e)
      show resOf _ _ [.tmp 2] = _
      simp only [go_sem, ↓reduceIte, Nat.reduceLT, Nat.reduceLeDiff, Nat.reduceAdd, Nat.reduceSub, Nat.reduceMul, Nat.reduceEqDiff, Nat.reduceBEq, Nat.reduceMod, Nat.reduceDiv, Int.reduceToNat, reduceCtorEq, Int.reduceLT, Int.reduceLE, Int.reduceGT, Int.reduceGE, Int.reduceAdd, Int.reduceSub, Int.reduceMul, Int.reduceNeg, Int.reduceEq, Int.reduceNe, Int.reduceBNe, Int.reduceBEq, Int.reduceDiv, bytesOf]
end Go.Proofs.Ytpepfhbfooeoeaa.VA
end
section
/- Numbers of 256 bits as bytes: the page's own, and back. -/
namespace Go.Proofs.Ytpepfhbfooeoeaa.VA
set_option maxRecDepth 10000
set_option linter.unusedSimpArgs false
set_option linter.unusedVariables false
set_option maxHeartbeats 4000000

theorem low_take {n L j : Nat} (h1 : 1 ≤ j) (h2 : j ≤ L) : (low L n).take (L - j) ++ [UInt8.ofNat (n / 256 ^ (j - 1))] = (low L n).take (L - (j - 1)) := by
  rw [show L - (j - 1) = (L - j) + 1 by omega, List.take_add_one, low_get L n _ (by omega)]
  rw [show L - 1 - (L - j) = j - 1 by omega]; rfl
theorem u8_ofNat (m : Nat) : u8 (UInt8.ofNat m) = .int .u8 ((m % 256 : Nat) : Int) := by unfold u8; rw [UInt8.toNat_ofNat']
theorem c_ref1_Text (n : Nat) (hn : n < U) : Contract Try.prog 111 [u n] (.str (bytesOf n)) := by
  have hle : bitsOf n ≤ 256 := (bits_le n 256).2 (by unfold U at hn; omega)
  have hbl : byteLen n ≤ 32 := by unfold byteLen; omega
  unfold u
  refine contract_of (C := cf 32 [1, 2, 3, 4, 5, 7, 25] (fun _ => [])) (cf_ok _ _ _) (fn := Try.f111) Try.func111 (by kernel_rfl) rfl (by kernel_rfl) (by simp [cf]) (plain1 (u4_plain _ _ _ _)) (by decide) (noCell (by kernel_rfl)) ?_
  simp only [go_sem, ↓reduceIte, Nat.reduceLT, Nat.reduceLeDiff, Nat.reduceAdd, Nat.reduceSub, Nat.reduceMul, Nat.reduceEqDiff, Nat.reduceBEq, Nat.reduceMod, Nat.reduceDiv, Int.reduceToNat, reduceCtorEq, Int.reduceLT, Int.reduceLE, Int.reduceGT, Int.reduceGE, Int.reduceAdd, Int.reduceSub, Int.reduceMul, Int.reduceNeg, Int.reduceEq, Int.reduceNe, Int.reduceBNe, Int.reduceBEq, Int.reduceDiv]
  refine ex_iter [1, 3, 4] (fun j : Nat => ⟨[(1, .var 1 0), (3, .own false 1 (((low (byteLen n) n).take (byteLen n - j)).map u8)), (4, .int .i64 ((j : Int) - 1))], [(1, [.int .u64 (lim n 0), .int .u64 (lim n 1), .int .u64 (lim n 2), .int .u64 (lim n 3)])], []⟩) (fun j => j ≤ 32) (fun j => j) 32 ?_ ?_ ?_
  · simp only [ASt.keep, consIf, keepL, keepV, AV.isBot, List.contains_cons, List.contains_nil, Nat.reduceBEq, Bool.or_false, Bool.false_or, Bool.or_true, Bool.true_or, beq_self_eq_true, Bool.false_eq_true, ↓reduceIte, if_false, if_true]
    rw [show byteLen n - 32 = 0 by omega]
    rfl
  · exact Nat.le_refl _
  · intro r j hj next
    cases j with
    | zero =>
      rw [Nat.sub_zero, List.take_of_length_le (by rw [low_len]; omega), show ((0 : Nat) : Int) - 1 = -1 by decide]
      simp only [go_sem, ↓reduceIte, Nat.reduceLT, Nat.reduceLeDiff, Nat.reduceAdd, Nat.reduceSub, Nat.reduceMul, Nat.reduceEqDiff, Nat.reduceBEq, Nat.reduceMod, Nat.reduceDiv, Int.reduceToNat, reduceCtorEq, Int.reduceLT, Int.reduceLE, Int.reduceGT, Int.reduceGE, Int.reduceAdd, Int.reduceSub, Int.reduceMul, Int.reduceNeg, Int.reduceEq, Int.reduceNe, Int.reduceBNe, Int.reduceBEq, Int.reduceDiv, asU8_map]
      refine finOne ?_ (fun _ e => by cases e)
      show resOf _ _ [.tmp 2] = _
      simp only [go_sem, ↓reduceIte, Nat.reduceLT, Nat.reduceLeDiff, Nat.reduceAdd, Nat.reduceSub, Nat.reduceMul, Nat.reduceEqDiff, Nat.reduceBEq, Nat.reduceMod, Nat.reduceDiv, Int.reduceToNat, reduceCtorEq, Int.reduceLT, Int.reduceLE, Int.reduceGT, Int.reduceGE, Int.reduceAdd, Int.reduceSub, Int.reduceMul, Int.reduceNeg, Int.reduceEq, Int.reduceNe, Int.reduceBNe, Int.reduceBEq, Int.reduceDiv, bytesOf]
    | succ i =>
      rw [show ((i + 1 : Nat) : Int) - 1 = (i : Int) by omega]
      have wq : (i : Int).tdiv 8 = ((i / 8 : Nat) : Int) := rfl
      have wr : (i : Int).tmod 8 = ((i % 8 : Nat) : Int) := rfl
      have wq2 := wi64n (i / 8) (by omega)
      have wm : IntKind.i64.wrap (8 * ((i % 8 : Nat) : Int)) = ((i % 8 * 8 : Nat) : Int) := by rw [wi64 (by omega) (by omega)]; omega
      have e0 : decide ((i : Int) ≥ 0) = true := decide_eq_true (by omega)
      have ws1 : IntKind.i64.wrap ((i : Int) - 1) = (i : Int) - 1 := by rw [wi64 (by omega) (by omega)]
      have hlen : ((low (byteLen n) n).take (byteLen n - (i + 1))).length = byteLen n - (i + 1) := by rw [List.length_take, low_len]; omega
      rcases Decidable.em (i < byteLen n) with hlt | hge
      · have hap := low_take (n := n) (show 1 ≤ i + 1 by omega) (show i + 1 ≤ byteLen n by omega)
        rw [Nat.add_sub_cancel] at hap
        simp only [go_sem, ↓reduceIte, Nat.reduceLT, Nat.reduceLeDiff, Nat.reduceAdd, Nat.reduceSub, Nat.reduceMul, Nat.reduceEqDiff, Nat.reduceBEq, Nat.reduceMod, Nat.reduceDiv, Int.reduceToNat, reduceCtorEq, Int.reduceLT, Int.reduceLE, Int.reduceGT, Int.reduceGE, Int.reduceAdd, Int.reduceSub, Int.reduceMul, Int.reduceNeg, Int.reduceEq, Int.reduceNe, Int.reduceBNe, Int.reduceBEq, Int.reduceDiv, e0, wq, wr, wq2, wm, Int.toNat_natCast, limb_at n _ (show i / 8 < 4 by omega)]
        repeat with_reducible refine And.intro (by first | omega | (simp only [List.length_cons, List.length_append, List.length_nil, List.length_map, List.length_take, List.length_drop, List.length_set]; omega)) ?_
        simp only [go_sem, ↓reduceIte, Nat.reduceLT, Nat.reduceLeDiff, Nat.reduceAdd, Nat.reduceSub, Nat.reduceMul, Nat.reduceEqDiff, Nat.reduceBEq, Nat.reduceMod, Nat.reduceDiv, Int.reduceToNat, reduceCtorEq, Int.reduceLT, Int.reduceLE, Int.reduceGT, Int.reduceGE, Int.reduceAdd, Int.reduceSub, Int.reduceMul, Int.reduceNeg, Int.reduceEq, Int.reduceNe, Int.reduceBNe, Int.reduceBEq, Int.reduceDiv, e0, wq, wr, wq2, wm, Int.toNat_natCast, limb_byte, List.length_map, hlen]
        have hap2 : ((low (byteLen n) n).take (byteLen n - (i + 1))).map u8 ++ [.int .u8 ((n / 256 ^ i % 256 : Nat) : Int)] = ((low (byteLen n) n).take (byteLen n - i)).map u8 := by
          rw [← u8_ofNat, ← hap, List.map_append]; rfl
        refine ex_split (fun hb => ?_) (fun hb => ?_)
        · have hb : n / 256 ^ i % 256 = 0 := by
            generalize n / 256 ^ i % 256 = q at hb
            simpa using hb
          have hpos : decide (((byteLen n - (i + 1) : Nat) : Int) > 0) = true := by
            refine decide_eq_true ?_
            rcases Decidable.em (i + 1 < byteLen n) with h1 | h1
            · omega
            · have h2 := byteLen_ge n (by omega)
              rw [show byteLen n - 1 = i by omega] at h2
              have h3 := byteLen_lt n
              rw [show byteLen n = i + 1 by omega, Nat.pow_succ] at h3
              have h4 : n / 256 ^ i < 256 := Nat.div_lt_of_lt_mul h3
              have h5 : 1 ≤ n / 256 ^ i := (Nat.one_le_div_iff (Nat.pow_pos (by decide))).2 h2
              rw [Nat.mod_eq_of_lt h4] at hb
              omega
          simp only [go_sem, ↓reduceIte, Nat.reduceLT, Nat.reduceLeDiff, Nat.reduceAdd, Nat.reduceSub, Nat.reduceMul, Nat.reduceEqDiff, Nat.reduceBEq, Nat.reduceMod, Nat.reduceDiv, Int.reduceToNat, reduceCtorEq, Int.reduceLT, Int.reduceLE, Int.reduceGT, Int.reduceGE, Int.reduceAdd, Int.reduceSub, Int.reduceMul, Int.reduceNeg, Int.reduceEq, Int.reduceNe, Int.reduceBNe, Int.reduceBEq, Int.reduceDiv, List.length_map, hlen, hpos]
          repeat with_reducible refine And.intro (by first | omega | (simp only [List.length_cons, List.length_append, List.length_nil, List.length_map, List.length_take, List.length_drop, List.length_set]; omega)) ?_
          simp only [go_sem, ↓reduceIte, Nat.reduceLT, Nat.reduceLeDiff, Nat.reduceAdd, Nat.reduceSub, Nat.reduceMul, Nat.reduceEqDiff, Nat.reduceBEq, Nat.reduceMod, Nat.reduceDiv, Int.reduceToNat, reduceCtorEq, Int.reduceLT, Int.reduceLE, Int.reduceGT, Int.reduceGE, Int.reduceAdd, Int.reduceSub, Int.reduceMul, Int.reduceNeg, Int.reduceEq, Int.reduceNe, Int.reduceBNe, Int.reduceBEq, Int.reduceDiv, hap2]
          refine next i _ (by omega) (by omega) ?_
          simp only [ASt.keep, consIf, keepL, keepV, AV.isBot, List.contains_cons, List.contains_nil, Nat.reduceBEq, Bool.or_false, Bool.false_or, Bool.or_true, Bool.true_or, beq_self_eq_true, Bool.false_eq_true, ↓reduceIte, if_false, if_true]
          rw [ws1]
        · simp only [go_sem, ↓reduceIte, Nat.reduceLT, Nat.reduceLeDiff, Nat.reduceAdd, Nat.reduceSub, Nat.reduceMul, Nat.reduceEqDiff, Nat.reduceBEq, Nat.reduceMod, Nat.reduceDiv, Int.reduceToNat, reduceCtorEq, Int.reduceLT, Int.reduceLE, Int.reduceGT, Int.reduceGE, Int.reduceAdd, Int.reduceSub, Int.reduceMul, Int.reduceNeg, Int.reduceEq, Int.reduceNe, Int.reduceBNe, Int.reduceBEq, Int.reduceDiv, List.length_map, hlen]
          repeat with_reducible refine And.intro (by first | omega | (simp only [List.length_cons, List.length_append, List.length_nil, List.length_map, List.length_take, List.length_drop, List.length_set]; omega)) ?_
          simp only [go_sem, ↓reduceIte, Nat.reduceLT, Nat.reduceLeDiff, Nat.reduceAdd, Nat.reduceSub, Nat.reduceMul, Nat.reduceEqDiff, Nat.reduceBEq, Nat.reduceMod, Nat.reduceDiv, Int.reduceToNat, reduceCtorEq, Int.reduceLT, Int.reduceLE, Int.reduceGT, Int.reduceGE, Int.reduceAdd, Int.reduceSub, Int.reduceMul, Int.reduceNeg, Int.reduceEq, Int.reduceNe, Int.reduceBNe, Int.reduceBEq, Int.reduceDiv, hap2]
          refine next i _ (by omega) (by omega) ?_
          simp only [ASt.keep, consIf, keepL, keepV, AV.isBot, List.contains_cons, List.contains_nil, Nat.reduceBEq, Bool.or_false, Bool.false_or, Bool.or_true, Bool.true_or, beq_self_eq_true, Bool.false_eq_true, ↓reduceIte, if_false, if_true]
          rw [ws1]
      · have hz : ((n / 256 ^ i % 256 : Nat) : Int) = 0 := by rw [Nat.div_eq_of_lt ((byteLen_le n i).1 (by omega))]; rfl
        have hz2 : byteLen n - i = 0 := by omega
        rw [show byteLen n - (i + 1) = 0 by omega, List.take_zero]
        simp only [go_sem, ↓reduceIte, Nat.reduceLT, Nat.reduceLeDiff, Nat.reduceAdd, Nat.reduceSub, Nat.reduceMul, Nat.reduceEqDiff, Nat.reduceBEq, Nat.reduceMod, Nat.reduceDiv, Int.reduceToNat, reduceCtorEq, Int.reduceLT, Int.reduceLE, Int.reduceGT, Int.reduceGE, Int.reduceAdd, Int.reduceSub, Int.reduceMul, Int.reduceNeg, Int.reduceEq, Int.reduceNe, Int.reduceBNe, Int.reduceBEq, Int.reduceDiv, e0, wq, wr, wq2, wm, Int.toNat_natCast, limb_at n _ (show i / 8 < 4 by omega)]
        repeat with_reducible refine And.intro (by first | omega | (simp only [List.length_cons, List.length_append, List.length_nil, List.length_map, List.length_take, List.length_drop, List.length_set]; omega)) ?_
        simp only [go_sem, ↓reduceIte, Nat.reduceLT, Nat.reduceLeDiff, Nat.reduceAdd, Nat.reduceSub, Nat.reduceMul, Nat.reduceEqDiff, Nat.reduceBEq, Nat.reduceMod, Nat.reduceDiv, Int.reduceToNat, reduceCtorEq, Int.reduceLT, Int.reduceLE, Int.reduceGT, Int.reduceGE, Int.reduceAdd, Int.reduceSub, Int.reduceMul, Int.reduceNeg, Int.reduceEq, Int.reduceNe, Int.reduceBNe, Int.reduceBEq, Int.reduceDiv, e0, wq, wr, wq2, wm, Int.toNat_natCast, limb_byte, hz, Int.cast_ofNat_Int]
        refine next i _ (by omega) (by omega) ?_
        simp only [ASt.keep, consIf, keepL, keepV, AV.isBot, List.contains_cons, List.contains_nil, Nat.reduceBEq, Bool.or_false, Bool.false_or, Bool.or_true, Bool.true_or, beq_self_eq_true, Bool.false_eq_true, ↓reduceIte, if_false, if_true]
        rw [ws1, hz2]
        rfl
end Go.Proofs.Ytpepfhbfooeoeaa.VA
end
section
/- The number of bytes. -/
namespace Go.Proofs.Ytpepfhbfooeoeaa.VA
set_option maxRecDepth 10000
set_option linter.unusedSimpArgs false
set_option linter.unusedVariables false
set_option maxHeartbeats 4000000

def limN (n i : Nat) : Nat := n / 2 ^ (64 * i) % 18446744073709551616
theorem lim_limN (n i : Nat) : lim n i = (limN n i : Int) := rfl
theorem limN_take (m b i j : Nat) (hm : m < 256 ^ i) (hb : b < 256) : limN (m + b * 256 ^ i) j = if j = i / 8 then limN m j ||| (b * 2 ^ (i % 8 * 8)) else limN m j := by
  have e256 : ∀ k, (256 : Nat) ^ k = 2 ^ (8 * k) := fun k => by rw [show (256 : Nat) = 2 ^ 8 by decide, ← Nat.pow_mul]
  have hM : (18446744073709551616 : Nat) = 2 ^ 64 := by decide
  unfold limN
  split
  · rename_i e
    subst e
    have e1 : (256 : Nat) ^ i = 2 ^ (64 * (i / 8)) * 2 ^ (i % 8 * 8) := by
      rw [e256, ← Nat.pow_add]; congr 1; omega
    have hB : 2 ^ (i % 8 * 8) * 256 ≤ 2 ^ 64 := by
      rw [show (256 : Nat) = 2 ^ 8 by decide, ← Nat.pow_add]
      exact Nat.pow_le_pow_right (by decide) (by omega)
    rw [e1] at hm ⊢
    generalize 2 ^ (64 * (i / 8)) = A at *
    have hA : 0 < A := by
      rcases Nat.eq_zero_or_pos A with h | h
      · subst h; simp at hm
      · exact h
    have hq : m / A < 2 ^ (i % 8 * 8) := Nat.div_lt_of_lt_mul hm
    rw [show b * (A * 2 ^ (i % 8 * 8)) = A * (2 ^ (i % 8 * 8) * b) by rw [Nat.mul_comm b, Nat.mul_assoc], Nat.add_mul_div_left _ _ hA]
    have hs : 2 ^ (i % 8 * 8) * b + m / A < 2 ^ 64 := by
      have : 2 ^ (i % 8 * 8) * (b + 1) ≤ 2 ^ (i % 8 * 8) * 256 := Nat.mul_le_mul_left _ hb
      rw [Nat.mul_add, Nat.mul_one] at this
      omega
    have hs2 : m / A + 2 ^ (i % 8 * 8) * b < 2 ^ 64 := by rw [Nat.add_comm]; exact hs
    have hq2 : m / A < 2 ^ 64 := by
      generalize 2 ^ (i % 8 * 8) = X at *
      omega
    rw [hM, Nat.mod_eq_of_lt hs2, Nat.mod_eq_of_lt hq2, Nat.add_comm, Nat.two_pow_add_eq_or_of_lt hq, Nat.or_comm, Nat.mul_comm b]
  · rename_i e
    rcases Nat.lt_or_gt_of_ne e with h | h
    · have e1 : (256 : Nat) ^ i = 2 ^ (64 * j) * (2 ^ 64 * 2 ^ (8 * i - 64 * j - 64)) := by
        rw [e256, ← Nat.pow_add, ← Nat.pow_add]; congr 1; omega
      rw [e1, show b * (2 ^ (64 * j) * (2 ^ 64 * 2 ^ (8 * i - 64 * j - 64))) = 2 ^ (64 * j) * (2 ^ 64 * (2 ^ (8 * i - 64 * j - 64) * b)) by
        rw [Nat.mul_comm b, Nat.mul_assoc, Nat.mul_assoc], Nat.add_mul_div_left _ _ (Nat.two_pow_pos _), hM, Nat.add_mul_mod_self_left]
    · have h1 : (256 : Nat) ^ (i + 1) ≤ 2 ^ (64 * j) := by
        rw [e256]; exact Nat.pow_le_pow_right (by decide) (by omega)
      rw [Nat.pow_succ] at h1
      have h2 : (b + 1) * 256 ^ i ≤ 256 * 256 ^ i := Nat.mul_le_mul_right _ hb
      rw [Nat.add_mul, Nat.one_mul] at h2
      rw [Nat.div_eq_of_lt (by omega), Nat.div_eq_of_lt (by omega)]
theorem limN_lt (n i : Nat) : limN n i < 18446744073709551616 := Nat.mod_lt _ (by decide)
theorem or_natU {x y : Nat} (hx : x < 18446744073709551616) (hy : y < 18446744073709551616) : IntKind.u64.wrap (BitVec.ofInt 64 (x : Int) ||| BitVec.ofInt 64 (y : Int)).toNat = ((x ||| y : Nat) : Int) := by
  rw [ofInt_nat, ofInt_nat, BitVec.toNat_or, BitVec.toNat_ofNat, BitVec.toNat_ofNat, Nat.mod_eq_of_lt hx, Nat.mod_eq_of_lt hy]
  have : x ||| y < 2 ^ 64 := Nat.or_lt_two_pow hx hy
  exact wu64 (by omega) (by omega)
theorem or_nat2 {x y : Nat} (hx : x < 18446744073709551616) (hy : y < 18446744073709551616) : IntKind.u64.wrap (@BitVec.toNat 64 (@HOr.hOr (BitVec 64) (BitVec 64) (BitVec 64) (@instHOrOfOrOp (BitVec IntKind.u64.bits) (@BitVec.instOrOp IntKind.u64.bits)) (BitVec.ofInt 64 (x : Int)) (BitVec.ofInt 64 (y : Int)))) = ((x ||| y : Nat) : Int) := or_natU hx hy
def limbL (n : Nat) : List AV := [.int .u64 (lim n 0), .int .u64 (lim n 1), .int .u64 (lim n 2), .int .u64 (lim n 3)]
theorem limbL_get (n j : Nat) (h : j < 4) : (limbL n)[j]? = some (.int .u64 (limN n j)) := limb_at n j h
theorem limbL_set (m b i : Nat) (hm : m < 256 ^ i) (hb : b < 256) (hi : i < 32) : (limbL m).set (i / 8) (.int .u64 ((limN m (i / 8) ||| (b * 2 ^ (i % 8 * 8)) : Nat) : Int)) = limbL (m + b * 256 ^ i) := by
  have h := fun j => limN_take m b i j hm hb
  unfold limbL
  rw [lim_limN (m + _) 0, lim_limN (m + _) 1, lim_limN (m + _) 2, lim_limN (m + _) 3, h 0, h 1, h 2, h 3]
  obtain e | e | e | e : i / 8 = 0 ∨ i / 8 = 1 ∨ i / 8 = 2 ∨ i / 8 = 3 := by omega
  all_goals rw [e]; rfl
theorem limbL_zero : limbL 0 = [.int .u64 0, .int .u64 0, .int .u64 0, .int .u64 0] := by unfold limbL; simp only [lim, Nat.zero_div, Nat.zero_mod]; rfl
theorem limbL_len (n : Nat) : (limbL n).length = 4 := rfl
theorem limbL_put (m b i : Nat) (hm : m < 256 ^ i) (hb : b < 256) (hi : i < 32) :
    (limbL m).take (i / 8) ++ [.int .u64 ((limN m (i / 8) ||| (b * 2 ^ (i % 8 * 8)) : Nat) : Int)] ++ (limbL m).drop (i / 8 + 1) = limbL (m + b * 256 ^ i) := by
  rw [← limbL_set m b i hm hb hi, List.set_eq_take_append_cons_drop, if_pos (by rw [limbL_len]; omega), List.append_assoc]; rfl
theorem shl_byte {b i : Nat} (hb : b < 256) : b * 2 ^ (i % 8 * 8) < 18446744073709551616 := by
  have h1 : (b + 1) * 2 ^ (i % 8 * 8) ≤ 256 * 2 ^ (i % 8 * 8) := Nat.mul_le_mul_right _ hb
  have h2 : 256 * 2 ^ (i % 8 * 8) ≤ 2 ^ 64 := by
    rw [show (256 : Nat) = 2 ^ 8 by decide, ← Nat.pow_add]
    exact Nat.pow_le_pow_right (by decide) (by omega)
  rw [Nat.add_mul, Nat.one_mul] at h1
  have h3 : 0 < 2 ^ (i % 8 * 8) := Nat.two_pow_pos _
  generalize 2 ^ (i % 8 * 8) = X at *
  generalize b * X = Y at *
  omega
theorem shl_nat {b i : Nat} (hb : b < 256) : IntKind.u64.wrap ((b : Int) * 2 ^ (min (i % 8 * 8) 64)) = ((b * 2 ^ (i % 8 * 8) : Nat) : Int) := by
  rw [Nat.min_eq_left (by omega)]
  have h := shl_byte (i := i) hb
  have e : (b : Int) * 2 ^ (i % 8 * 8) = ((b * 2 ^ (i % 8 * 8) : Nat) : Int) := by push_cast; rfl
  rw [e]
  exact wu64 (by omega) (by omega)
def takeU (s : List UInt8) : Nat × Bool := if s.length > 32 ∨ s.head? = some 0 then (0, false) else (numOf s, true)
theorem u_zero : u 0 = .agg [.int .u64 (0 : Int), .int .u64 (0 : Int), .int .u64 (0 : Int), .int .u64 (0 : Int)] := u_small 0 (by decide)
theorem numOf_small {s : List UInt8} (h : s.length ≤ 32) : numOf s < U := by
  have h1 := numOf_lt s
  have : (256 : Nat) ^ s.length ≤ 256 ^ 32 := Nat.pow_le_pow_right (by decide) h
  have : (256 : Nat) ^ 32 = U := by unfold U; decide
  omega
theorem takeU_lt (s : List UInt8) : (takeU s).1 < U := by
  unfold takeU
  split
  · unfold U; decide
  · rename_i h
    exact numOf_small (by omega)
theorem u8z : (((0 : UInt8).toNat : Int) == 0) = true := by decide
end Go.Proofs.Ytpepfhbfooeoeaa.VA
end
section
/- The page's difference. -/
namespace Go.Proofs.Ytpepfhbfooeoeaa.VA
set_option maxRecDepth 10000
set_option linter.unusedSimpArgs false
set_option linter.unusedVariables false
set_option maxHeartbeats 8000000

/-- One step of a difference: what is left, what is owed. -/
theorem sb_step (x y c : Nat) (hx : x < 18446744073709551616) (hy : y < 18446744073709551616) (hc : c ≤ 1) : ∃ s k : Nat, s < 18446744073709551616 ∧ k ≤ 1 ∧ s + y + c = x + 18446744073709551616 * k := by
  by_cases h : y + c ≤ x
  · exact ⟨x - y - c, 0, by omega, by omega, by omega⟩
  · exact ⟨x + 18446744073709551616 - y - c, 1, by omega, by omega, by omega⟩
theorem ref_sub {x y c s k : Nat} (hx : x < 18446744073709551616) (hy : y < 18446744073709551616) (hc : c ≤ 1) (hs : s < 18446744073709551616) (hk : k ≤ 1) (h : s + y + c = x + 18446744073709551616 * k) :
    IntKind.u64.wrap (IntKind.u64.wrap ((x : Int) - y) - c) = s ∧
    (bif decide (IntKind.u64.wrap ((x : Int) - y) < (c : Int)) then 1 else bif decide ((x : Int) < y) then (1 : Int) else 0) = k := by
  simp only [IntKind.wrap_u64]
  refine ⟨by omega, ?_⟩
  cases h1 : decide ((((x : Int) - y) % 18446744073709551616) < (c : Int)) <;> cases h2 : decide ((x : Int) < y) <;> simp only [cond_true, cond_false] <;> simp only [decide_eq_true_eq, decide_eq_false_iff_not] at h1 h2 <;> omega
theorem c_ref1_Sub (n m : Nat) (hn : n < U) (hm : m < U) : Contract Try.prog 26 [u n, u m] (.tup [u (if m ≤ n then n - m else 0), .bool (decide (m ≤ n))]) := by
  have hcm := c_ref1_Cmp n m hn hm
  obtain ⟨x0, x1, x2, x3, hx0, hx1, hx2, hx3, en⟩ := u_limbs n hn
  obtain ⟨y0, y1, y2, y3, hy0, hy1, hy2, hy3, em⟩ := u_limbs m hm
  obtain ⟨s0, k0, hs0, hk0, e0⟩ := sb_step x0 y0 0 hx0 hy0 (by omega)
  obtain ⟨s1, k1, hs1, hk1, e1⟩ := sb_step x1 y1 k0 hx1 hy1 hk0
  obtain ⟨s2, k2, hs2, hk2, e2⟩ := sb_step x2 y2 k1 hx2 hy2 hk1
  obtain ⟨s3, k3, hs3, hk3, e3⟩ := sb_step x3 y3 k2 hx3 hy3 hk2
  obtain ⟨r0, q0⟩ := ref_sub hx0 hy0 (by omega) hs0 hk0 e0
  obtain ⟨r1, q1⟩ := ref_sub hx1 hy1 hk0 hs1 hk1 e1
  obtain ⟨r2, q2⟩ := ref_sub hx2 hy2 hk1 hs2 hk2 e2
  obtain ⟨r3, q3⟩ := ref_sub hx3 hy3 hk2 hs3 hk3 e3
  rw [Int.cast_ofNat_Int] at r0 q0
  have hz4 : u 0 = _ := u_small 0 (by decide)
  have un1 := u_eq hx0 hx1 hx2 hx3 en
  have un2 := u_eq hy0 hy1 hy2 hy3 em
  rw [un1, un2] at hcm
  rw [un1, un2]
  refine contract_of (C := cf 46 [2, 3, 4, 5, 6, 7, 8, 9, 10, 11, 15, 18, 34, 40] (fun _ => [])) (cf_ok _ _ _) (fn := Try.f26) Try.func26 (by kernel_rfl) rfl (by kernel_rfl) (by simp [cf]) (plain2 (u4_plain _ _ _ _) (u4_plain _ _ _ _)) (by decide) (cellsOk (by kernel_rfl)) ?_
  simp only [go_sem, ↓reduceIte, Nat.reduceLT, Nat.reduceLeDiff, Nat.reduceAdd, Nat.reduceSub, Nat.reduceMul, Nat.reduceEqDiff, Nat.reduceBEq, Nat.reduceMod, Nat.reduceDiv, Int.reduceToNat, reduceCtorEq, Int.reduceLT, Int.reduceLE, Int.reduceGT, Int.reduceGE, Int.reduceAdd, Int.reduceSub, Int.reduceMul, Int.reduceNeg, Int.reduceEq, Int.reduceNe, Int.reduceBNe, Int.reduceBEq, Int.reduceDiv]
  refine ex_call hcm ?_
  simp only [go_sem, ↓reduceIte, Nat.reduceLT, Nat.reduceLeDiff, Nat.reduceAdd, Nat.reduceSub, Nat.reduceMul, Nat.reduceEqDiff, Nat.reduceBEq, Nat.reduceMod, Nat.reduceDiv, Int.reduceToNat, reduceCtorEq, Int.reduceLT, Int.reduceLE, Int.reduceGT, Int.reduceGE, Int.reduceAdd, Int.reduceSub, Int.reduceMul, Int.reduceNeg, Int.reduceEq, Int.reduceNe, Int.reduceBNe, Int.reduceBEq, Int.reduceDiv, cmp_lt]
  refine ex_br (fun h => ?_) (fun h => ?_)
  · have h := of_decide_eq_true h
    rw [if_neg (by omega), decide_eq_false (by omega), hz4]
    simp only [go_sem, ↓reduceIte, Nat.reduceLT, Nat.reduceLeDiff, Nat.reduceAdd, Nat.reduceSub, Nat.reduceMul, Nat.reduceEqDiff, Nat.reduceBEq, Nat.reduceMod, Nat.reduceDiv, Int.reduceToNat, reduceCtorEq, Int.reduceLT, Int.reduceLE, Int.reduceGT, Int.reduceGE, Int.reduceAdd, Int.reduceSub, Int.reduceMul, Int.reduceNeg, Int.reduceEq, Int.reduceNe, Int.reduceBNe, Int.reduceBEq, Int.reduceDiv]
    refine finTup ?_
    show resOf _ _ [.cell 4 25, .tmp 5] = _
    simp only [go_sem, ↓reduceIte, Nat.reduceLT, Nat.reduceLeDiff, Nat.reduceAdd, Nat.reduceSub, Nat.reduceMul, Nat.reduceEqDiff, Nat.reduceBEq, Nat.reduceMod, Nat.reduceDiv, Int.reduceToNat, reduceCtorEq, Int.reduceLT, Int.reduceLE, Int.reduceGT, Int.reduceGE, Int.reduceAdd, Int.reduceSub, Int.reduceMul, Int.reduceNeg, Int.reduceEq, Int.reduceNe, Int.reduceBNe, Int.reduceBEq, Int.reduceDiv]
    rfl
  have h := of_decide_eq_false h
  simp only [go_sem, ↓reduceIte, Nat.reduceLT, Nat.reduceLeDiff, Nat.reduceAdd, Nat.reduceSub, Nat.reduceMul, Nat.reduceEqDiff, Nat.reduceBEq, Nat.reduceMod, Nat.reduceDiv, Int.reduceToNat, reduceCtorEq, Int.reduceLT, Int.reduceLE, Int.reduceGT, Int.reduceGE, Int.reduceAdd, Int.reduceSub, Int.reduceMul, Int.reduceNeg, Int.reduceEq, Int.reduceNe, Int.reduceBNe, Int.reduceBEq, Int.reduceDiv]
  refine ex_loop [2, 3, 4, 6, 7, 8] 5 ?_
  iterate 4
    simp only [go_sem, ↓reduceIte, Nat.reduceLT, Nat.reduceLeDiff, Nat.reduceAdd, Nat.reduceSub, Nat.reduceMul, Nat.reduceEqDiff, Nat.reduceBEq, Nat.reduceMod, Nat.reduceDiv, Int.reduceToNat, reduceCtorEq, Int.reduceLT, Int.reduceLE, Int.reduceGT, Int.reduceGE, Int.reduceAdd, Int.reduceSub, Int.reduceMul, Int.reduceNeg, Int.reduceEq, Int.reduceNe, Int.reduceBNe, Int.reduceBEq, Int.reduceDiv, ex_round]
    refine ex_draw [] [] (.quiet 0 (.quiet 1 (.quiet 2 (.quiet 3 (.quiet 4 (.quiet 5 (.quiet 6 (.quiet 7 (.fin))))))))) (by kernel_rfl) ?_
    simp only [go_sem, ↓reduceIte, Nat.reduceLT, Nat.reduceLeDiff, Nat.reduceAdd, Nat.reduceSub, Nat.reduceMul, Nat.reduceEqDiff, Nat.reduceBEq, Nat.reduceMod, Nat.reduceDiv, Int.reduceToNat, reduceCtorEq, Int.reduceLT, Int.reduceLE, Int.reduceGT, Int.reduceGE, Int.reduceAdd, Int.reduceSub, Int.reduceMul, Int.reduceNeg, Int.reduceEq, Int.reduceNe, Int.reduceBNe, Int.reduceBEq, Int.reduceDiv, Int.cast_ofNat_Int, wi64]
    refine ex_draw [] [] (.quiet 0 (.quiet 1 (.quiet 2 (.quiet 3 (.quiet 4 (.quiet 5 (.quiet 6 (.fin)))))))) (by kernel_rfl) ?_
    simp only [go_sem, ↓reduceIte, Nat.reduceLT, Nat.reduceLeDiff, Nat.reduceAdd, Nat.reduceSub, Nat.reduceMul, Nat.reduceEqDiff, Nat.reduceBEq, Nat.reduceMod, Nat.reduceDiv, Int.reduceToNat, reduceCtorEq, Int.reduceLT, Int.reduceLE, Int.reduceGT, Int.reduceGE, Int.reduceAdd, Int.reduceSub, Int.reduceMul, Int.reduceNeg, Int.reduceEq, Int.reduceNe, Int.reduceBNe, Int.reduceBEq, Int.reduceDiv, Int.cast_ofNat_Int, wi64]
    refine ex_ifI 10 .u64 1 rfl ?_ ?_ ?_
    iterate 2
      (simp only [go_sem, ↓reduceIte, Nat.reduceLT, Nat.reduceLeDiff, Nat.reduceAdd, Nat.reduceSub, Nat.reduceMul, Nat.reduceEqDiff, Nat.reduceBEq, Nat.reduceMod, Nat.reduceDiv, Int.reduceToNat, reduceCtorEq, Int.reduceLT, Int.reduceLE, Int.reduceGT, Int.reduceGE, Int.reduceAdd, Int.reduceSub, Int.reduceMul, Int.reduceNeg, Int.reduceEq, Int.reduceNe, Int.reduceBNe, Int.reduceBEq, Int.reduceDiv])
    simp only [go_sem, ↓reduceIte, Nat.reduceLT, Nat.reduceLeDiff, Nat.reduceAdd, Nat.reduceSub, Nat.reduceMul, Nat.reduceEqDiff, Nat.reduceBEq, Nat.reduceMod, Nat.reduceDiv, Int.reduceToNat, reduceCtorEq, Int.reduceLT, Int.reduceLE, Int.reduceGT, Int.reduceGE, Int.reduceAdd, Int.reduceSub, Int.reduceMul, Int.reduceNeg, Int.reduceEq, Int.reduceNe, Int.reduceBNe, Int.reduceBEq, Int.reduceDiv, Int.cast_ofNat_Int, wi64]
    refine ex_ifI 10 .u64 1 rfl ?_ ?_ ?_
    iterate 2
      (simp only [go_sem, ↓reduceIte, Nat.reduceLT, Nat.reduceLeDiff, Nat.reduceAdd, Nat.reduceSub, Nat.reduceMul, Nat.reduceEqDiff, Nat.reduceBEq, Nat.reduceMod, Nat.reduceDiv, Int.reduceToNat, reduceCtorEq, Int.reduceLT, Int.reduceLE, Int.reduceGT, Int.reduceGE, Int.reduceAdd, Int.reduceSub, Int.reduceMul, Int.reduceNeg, Int.reduceEq, Int.reduceNe, Int.reduceBNe, Int.reduceBEq, Int.reduceDiv])
    simp only [go_sem, ↓reduceIte, Nat.reduceLT, Nat.reduceLeDiff, Nat.reduceAdd, Nat.reduceSub, Nat.reduceMul, Nat.reduceEqDiff, Nat.reduceBEq, Nat.reduceMod, Nat.reduceDiv, Int.reduceToNat, reduceCtorEq, Int.reduceLT, Int.reduceLE, Int.reduceGT, Int.reduceGE, Int.reduceAdd, Int.reduceSub, Int.reduceMul, Int.reduceNeg, Int.reduceEq, Int.reduceNe, Int.reduceBNe, Int.reduceBEq, Int.reduceDiv, r0, r1, r2, r3, q0, q1, q2, q3, Int.cast_ofNat_Int, wi64]
  have hk : k3 = 0 := by omega
  have hsum : n - m = s0 + 18446744073709551616 * s1 + 340282366920938463463374607431768211456 * s2 + 6277101735386680763835789423207666416102355444464034512896 * s3 := by omega
  rw [if_pos (by omega), decide_eq_true (by omega), u_eq hs0 hs1 hs2 hs3 hsum]
  simp only [go_sem, ↓reduceIte, Nat.reduceLT, Nat.reduceLeDiff, Nat.reduceAdd, Nat.reduceSub, Nat.reduceMul, Nat.reduceEqDiff, Nat.reduceBEq, Nat.reduceMod, Nat.reduceDiv, Int.reduceToNat, reduceCtorEq, Int.reduceLT, Int.reduceLE, Int.reduceGT, Int.reduceGE, Int.reduceAdd, Int.reduceSub, Int.reduceMul, Int.reduceNeg, Int.reduceEq, Int.reduceNe, Int.reduceBNe, Int.reduceBEq, Int.reduceDiv, ex_round]
  refine finTup ?_
  show resOf _ _ [.cell 4 25, .tmp 5] = _
  simp only [go_sem, ↓reduceIte, Nat.reduceLT, Nat.reduceLeDiff, Nat.reduceAdd, Nat.reduceSub, Nat.reduceMul, Nat.reduceEqDiff, Nat.reduceBEq, Nat.reduceMod, Nat.reduceDiv, Int.reduceToNat, reduceCtorEq, Int.reduceLT, Int.reduceLE, Int.reduceGT, Int.reduceGE, Int.reduceAdd, Int.reduceSub, Int.reduceMul, Int.reduceNeg, Int.reduceEq, Int.reduceNe, Int.reduceBNe, Int.reduceBEq, Int.reduceDiv]
  try rfl
end Go.Proofs.Ytpepfhbfooeoeaa.VA
end
section
/- What a transaction costs, what it pays; the difference of numbers. -/
namespace Go.Proofs.Ytpepfhbfooeoeaa.VA
set_option maxRecDepth 10000
set_option linter.unusedSimpArgs false
set_option linter.unusedVariables false
set_option maxHeartbeats 8000000

theorem validTx_parts {t : TxD} (h : validTx t = true) : (0 ≤ t.frm ∧ t.frm < 8) ∧ (0 ≤ t.nonce ∧ t.nonce ≤ 1099511627776) ∧ (0 ≤ t.gas ∧ t.gas ≤ 1073741824) ∧ t.tip ≤ t.cap ∧ (1 ≤ t.blobs.length ∧ t.blobs.length ≤ 4) ∧ costOf t < U := by
  simp only [validTx, Bool.and_eq_true, decide_eq_true_eq] at h
  have := fits_len h.1.2
  exact ⟨by omega, by omega, by omega, by omega, ⟨this.1, this.2.1⟩, h.2⟩
theorem c_tx_Cost (t : TxD) (h : t.ok) : Contract Try.prog 112 [t.av] (.tup [u (if validTx t = true then costOf t else 0), .int .i64 (if validTx t = true then 0 else 1)]) := by
  refine contract_of (C := cf 19 [1, 2, 3, 4, 5, 10] (fun _ => [])) (cf_ok _ _ _) (fn := Try.f112) Try.func112 (by kernel_rfl) rfl (by kernel_rfl) (by simp [cf]) (plain1 t.plain) (by decide) (cellsOk (by kernel_rfl)) ?_
  simp only [go_sem, seval, TxD.av, TxD.cells, ints, strs]
  refine ex_call (by exact c_tx_Check t h) ?_
  cases hv : validTx t
  · simp only [go_sem, seval, u_zero]
    refine finTup ?_
    show resOf _ _ [.cell 2 25, .tmp 3] = _
    simp only [go_sem, seval]
  · obtain ⟨_, _, hg, _, hb, hc⟩ := validTx_parts hv
    simp only [go_sem, seval]
    refine ex_call (by exact c_tx_cost t h hg hb) ?_
    rw [if_pos hc]
    simp only [go_sem, seval, u]
    refine finTup ?_
    show resOf _ _ [.cell 2 25, .tmp 3] = _
    simp only [go_sem, seval]

/-! The difference. -/
def sbS (x y c : Int) : Int := (((x.toNat + 18446744073709551616 - y.toNat - c.toNat) % 18446744073709551616 : Nat) : Int)
def sbC (x y c : Int) : Int := if x.toNat < y.toNat + c.toNat then 1 else 0
def sub64Entry : Array Value → Sem Value := fun args => do
  let (x, y, b) ← Extern.MathBitsCarry.three "Sub64" args
  pure (Extern.MathBitsCarry.pair ((x + Extern.MathBitsCarry.m64 - y - b) % Extern.MathBitsCarry.m64) (if x < y + b then 1 else 0))
theorem run_sub64 {P : Program} (x y c : Int) (hc : c = 0 ∨ c = 1) (w : World) : (sub64Entry #[.int .u64 x, .int .u64 y, .int .u64 c]).run P w = .ok (.tuple #[.int .u64 (sbS x y c), .int .u64 (sbC x y c)]) w := by
  have key : ∀ k : Nat, k = 0 ∨ k = 1 → (sub64Entry #[.int .u64 x, .int .u64 y, .int .u64 (k : Int)]).run P w =
      .ok (Extern.MathBitsCarry.pair ((x.toNat + Extern.MathBitsCarry.m64 - y.toNat - k) % Extern.MathBitsCarry.m64) (if x.toNat < y.toNat + k then 1 else 0)) w := by
    intro k hk
    rcases hk with rfl | rfl <;> rfl
  obtain ⟨k, rfl, hk⟩ : ∃ k : Nat, c = (k : Int) ∧ (k = 0 ∨ k = 1) := by
    rcases hc with rfl | rfl
    · exact ⟨0, rfl, .inl rfl⟩
    · exact ⟨1, rfl, .inr rfl⟩
  rw [key k hk]
  unfold sbS sbC Extern.MathBitsCarry.pair
  rw [Int.toNat_natCast]
  congr 5
  split <;> rfl
theorem sb_eq {x y c s k : Nat} (hx : x < 18446744073709551616) (hy : y < 18446744073709551616) (hc : c ≤ 1) (hs : s < 18446744073709551616) (hk : k ≤ 1) (e : s + y + c = x + 18446744073709551616 * k) :
    sbS x y c = s ∧ sbC x y c = k := by
  unfold sbS sbC
  simp only [Int.toNat_natCast]
  refine ⟨by omega, ?_⟩
  split <;> omega
/-! What is paid. -/
def payOf (t : TxD) (b : Nat) : Nat := if t.tip < t.cap - b then t.tip else t.cap - b
theorem payOf_lt {t : TxD} (h : t.ok) (b : Nat) : payOf t b < U := by
  have := h.tip
  have := h.cap
  unfold payOf
  split <;> omega
theorem u_E (n : Nat) : u n = .agg [.int .u64 (lim n 0), .int .u64 (lim n 1), .int .u64 (lim n 2), .int .u64 (lim n 3)] := rfl
end Go.Proofs.Ytpepfhbfooeoeaa.VA
end
section
/- Chains: which may be, what they cost together. -/
namespace Go.Proofs.Ytpepfhbfooeoeaa.VA
set_option maxRecDepth 10000
set_option linter.unusedSimpArgs false
set_option linter.unusedVariables false
set_option maxHeartbeats 8000000

def sumCost : List TxD → Nat
  | [] => 0
  | t :: ts => costOf t + sumCost ts
theorem sumCost_app (l m : List TxD) : sumCost (l ++ m) = sumCost l + sumCost m := by
  induction l with
  | nil => simp [sumCost]
  | cons t ts ih => simp only [List.cons_append, sumCost, ih]; omega
theorem sumCost_succ {l : List TxD} {i : Nat} {t : TxD} (e : l[i]? = some t) : sumCost (l.take (i + 1)) = sumCost (l.take i) + costOf t := by
  rw [List.take_add_one, e, sumCost_app]; simp [sumCost]
theorem sumCost_take (l : List TxD) (i : Nat) : sumCost (l.take i) ≤ sumCost l := by
  conv => rhs; rw [← List.take_append_drop i l, sumCost_app]
  omega

/-- A chain. -/
structure ChainP (l : List TxD) : Prop where
  len : l.length ≤ 6
  valid : ∀ (i : Nat) t, l[i]? = some t → validTx t = true
  link : ∀ (i : Nat) a t, l[0]? = some a → l[i]? = some t → t.frm = a.frm ∧ t.nonce = a.nonce + i
  sum : sumCost l < U
noncomputable def chainOk (l : List TxD) : Bool := @decide (ChainP l) (Classical.propDecidable _)
theorem chainOk_iff {l : List TxD} : chainOk l = true ↔ ChainP l := by unfold chainOk; simp
theorem chainOk_no {l : List TxD} (h : ¬ ChainP l) : chainOk l = false := by
  rw [Bool.eq_false_iff, Ne, chainOk_iff]; exact h
theorem chainOk_yes {l : List TxD} (h : ChainP l) : chainOk l = true := chainOk_iff.2 h
/-- What is known of the first ones. -/
structure Upto (l : List TxD) (i : Nat) : Prop where
  le : i ≤ l.length
  valid : ∀ (j : Nat) t, j < i → l[j]? = some t → validTx t = true
  link : ∀ (j : Nat) a t, j < i → l[0]? = some a → l[j]? = some t → t.frm = a.frm ∧ t.nonce = a.nonce + j
  sum : sumCost (l.take i) < U
theorem Upto.zero (l : List TxD) : Upto l 0 := ⟨Nat.zero_le _, fun j t h => by omega, fun j a t h => by omega, by simp [sumCost]; decide⟩
theorem Upto.done {l : List TxD} (h : Upto l l.length) (hl : l.length ≤ 6) : ChainP l :=
  ⟨hl, fun i t e => h.valid i t (List.getElem?_eq_some_iff.1 e).1 e, fun i a t e0 e => h.link i a t (List.getElem?_eq_some_iff.1 e).1 e0 e, by have := h.sum; rwa [List.take_length] at this⟩
theorem Upto.succ {l : List TxD} {i : Nat} (h : Upto l i) {x : TxD} (ex : l[i]? = some x) (hv : validTx x = true) (hk : ∀ a, l[0]? = some a → x.frm = a.frm ∧ x.nonce = a.nonce + i) (hs : sumCost (l.take i) + costOf x < U) : Upto l (i + 1) where
  le := (List.getElem?_eq_some_iff.1 ex).1
  valid j t hj e := by
    rcases Nat.lt_or_ge j i with h1 | h1
    · exact h.valid j t h1 e
    · obtain rfl : j = i := by omega
      rw [ex] at e; cases e; exact hv
  link j a t hj e0 e := by
    rcases Nat.lt_or_ge j i with h1 | h1
    · exact h.link j a t h1 e0 e
    · obtain rfl : j = i := by omega
      rw [ex] at e; cases e; exact hk a e0
  sum := by rw [sumCost_succ ex]; exact hs

theorem c_chain_spent (l : List TxD) (hl : l.length * 200 ≤ reachBytes) (hok : ∀ a ∈ l, a.ok) :
    Contract Try.prog 82 [txs l] (.tup [u (if chainOk l = true then sumCost l else 0), .bool (chainOk l)]) := by
  unfold reachBytes at hl
  obtain ⟨res, hres⟩ : ∃ res, res = (.tup [u (if chainOk l = true then sumCost l else 0), .bool (chainOk l)] : AV) := ⟨_, rfl⟩
  rw [← hres]
  refine contract_of (C := cf 63 [0, 2, 3, 4, 5, 6, 7, 10, 12, 13, 14, 15, 50, 59] (fun _ => [])) (cf_ok _ _ _) (fn := Try.f82) Try.func82 (by kernel_rfl) rfl (by kernel_rfl) (by simp [cf]) (plain1 (txs_plain l)) (by decide) (cellsOk (by kernel_rfl)) ?_
  have bad : chainOk l = false → res = .tup [.agg [.int .u64 0, .int .u64 0, .int .u64 0, .int .u64 0], .bool false] := fun e => by
    rw [hres, e, if_neg (by decide), u_zero]
  simp only [go_sem, ↓reduceIte, Nat.reduceLT, Nat.reduceLeDiff, Nat.reduceAdd, Nat.reduceSub, Nat.reduceMul, Nat.reduceEqDiff, Nat.reduceBEq, Nat.reduceMod, Nat.reduceDiv, Int.reduceToNat, reduceCtorEq, Int.reduceLT, Int.reduceLE, Int.reduceGT, Int.reduceGE, Int.reduceAdd, Int.reduceSub, Int.reduceMul, Int.reduceNeg, Int.reduceEq, Int.reduceNe, Int.reduceBNe, Int.reduceBEq, Int.reduceDiv, txs, List.length_map]
  refine ex_br (fun h => ?_) (fun h => ?_)
  · have hno : chainOk l = false := chainOk_no fun k => by
      have h := of_decide_eq_true h
      have := k.len
      omega
    rw [bad hno]
    simp only [go_sem, ↓reduceIte, Nat.reduceLT, Nat.reduceLeDiff, Nat.reduceAdd, Nat.reduceSub, Nat.reduceMul, Nat.reduceEqDiff, Nat.reduceBEq, Nat.reduceMod, Nat.reduceDiv, Int.reduceToNat, reduceCtorEq, Int.reduceLT, Int.reduceLE, Int.reduceGT, Int.reduceGE, Int.reduceAdd, Int.reduceSub, Int.reduceMul, Int.reduceNeg, Int.reduceEq, Int.reduceNe, Int.reduceBNe, Int.reduceBEq, Int.reduceDiv]
    refine finTup ?_
    show resOf _ _ [.cell 2 25, .tmp 3] = _
    simp only [go_sem, ↓reduceIte, Nat.reduceLT, Nat.reduceLeDiff, Nat.reduceAdd, Nat.reduceSub, Nat.reduceMul, Nat.reduceEqDiff, Nat.reduceBEq, Nat.reduceMod, Nat.reduceDiv, Int.reduceToNat, reduceCtorEq, Int.reduceLT, Int.reduceLE, Int.reduceGT, Int.reduceGE, Int.reduceAdd, Int.reduceSub, Int.reduceMul, Int.reduceNeg, Int.reduceEq, Int.reduceNe, Int.reduceBNe, Int.reduceBEq, Int.reduceDiv]
  · have hl6 : l.length ≤ 6 := by
      have h := of_decide_eq_false h
      omega
    simp only [go_sem, ↓reduceIte, Nat.reduceLT, Nat.reduceLeDiff, Nat.reduceAdd, Nat.reduceSub, Nat.reduceMul, Nat.reduceEqDiff, Nat.reduceBEq, Nat.reduceMod, Nat.reduceDiv, Int.reduceToNat, reduceCtorEq, Int.reduceLT, Int.reduceLE, Int.reduceGT, Int.reduceGE, Int.reduceAdd, Int.reduceSub, Int.reduceMul, Int.reduceNeg, Int.reduceEq, Int.reduceNe, Int.reduceBNe, Int.reduceBEq, Int.reduceDiv, List.length_map]
    refine ex_iter [0, 2, 12, 13, 14] (fun i : Nat => ⟨[(0, .sl false 21 (l.map TxD.av)), (2, .var 2 0), (12, .sl false 21 (l.map TxD.av)), (13, .int .i64 l.length), (14, .int .i64 i)], [(2, [.int .u64 (lim (sumCost (l.take i)) 0), .int .u64 (lim (sumCost (l.take i)) 1), .int .u64 (lim (sumCost (l.take i)) 2), .int .u64 (lim (sumCost (l.take i)) 3)])], []⟩) (fun i => Upto l i) (fun i => l.length - i) 0 ?_ ?_ ?_
    · simp only [ASt.keep, consIf, keepL, keepV, AV.isBot, List.contains_cons, List.contains_nil, Nat.reduceBEq, Bool.or_false, Bool.false_or, Bool.or_true, Bool.true_or, beq_self_eq_true, Bool.false_eq_true, ↓reduceIte, if_false, if_true]
      have := u_zero
      unfold u at this
      simp only [List.take_zero, sumCost]
      injection this with this
      rw [this]
      rfl
    · exact Upto.zero l
    · rintro n i hu next
      have hi := hu.le
      simp only [go_sem, ↓reduceIte, Nat.reduceLT, Nat.reduceLeDiff, Nat.reduceAdd, Nat.reduceSub, Nat.reduceMul, Nat.reduceEqDiff, Nat.reduceBEq, Nat.reduceMod, Nat.reduceDiv, Int.reduceToNat, reduceCtorEq, Int.reduceLT, Int.reduceLE, Int.reduceGT, Int.reduceGE, Int.reduceAdd, Int.reduceSub, Int.reduceMul, Int.reduceNeg, Int.reduceEq, Int.reduceNe, Int.reduceBNe, Int.reduceBEq, Int.reduceDiv, List.length_map]
      refine ex_br (fun h => ?_) (fun h => ?_)
      · have hlt : i < l.length := by simpa using h
        obtain ⟨x, ex⟩ : ∃ x, l[i]? = some x := ⟨_, List.getElem?_eq_getElem hlt⟩
        obtain ⟨a, ea⟩ : ∃ x, l[0]? = some x := ⟨_, List.getElem?_eq_getElem (by omega)⟩
        have hx := hok x (List.mem_of_getElem? ex)
        simp only [go_sem, ↓reduceIte, Nat.reduceLT, Nat.reduceLeDiff, Nat.reduceAdd, Nat.reduceSub, Nat.reduceMul, Nat.reduceEqDiff, Nat.reduceBEq, Nat.reduceMod, Nat.reduceDiv, Int.reduceToNat, reduceCtorEq, Int.reduceLT, Int.reduceLE, Int.reduceGT, Int.reduceGE, Int.reduceAdd, Int.reduceSub, Int.reduceMul, Int.reduceNeg, Int.reduceEq, Int.reduceNe, Int.reduceBNe, Int.reduceBEq, Int.reduceDiv, List.length_map, List.getElem?_map, ex, Int.toNat_natCast, TxD.av, TxD.cells, ints, strs]
        repeat with_reducible refine And.intro (by first | omega | (simp only [List.length_cons, List.length_append, List.length_nil, List.length_map, List.length_take, List.length_drop, List.length_set]; omega)) ?_
        refine ex_call (by exact c_tx_Cost x hx) ?_
        cases hv : validTx x
        · rw [bad (chainOk_no fun k => by rw [k.valid i x ex] at hv; cases hv)]
          simp only [go_sem, ↓reduceIte, Nat.reduceLT, Nat.reduceLeDiff, Nat.reduceAdd, Nat.reduceSub, Nat.reduceMul, Nat.reduceEqDiff, Nat.reduceBEq, Nat.reduceMod, Nat.reduceDiv, Int.reduceToNat, reduceCtorEq, Int.reduceLT, Int.reduceLE, Int.reduceGT, Int.reduceGE, Int.reduceAdd, Int.reduceSub, Int.reduceMul, Int.reduceNeg, Int.reduceEq, Int.reduceNe, Int.reduceBNe, Int.reduceBEq, Int.reduceDiv, u_zero]
          refine ex_draw [] [] (.quiet 0 (.quiet 1 (.quiet 2 (.quiet 3 (.quiet 4 (.quiet 5 (.quiet 6 (.quiet 7 (.quiet 8 (.quiet 9 (.quiet 10 (.quiet 11 (.quiet 12 (.quiet 13 (.quiet 14 (.quiet 15 (.quiet 16 (.quiet 17 (.quiet 18 (.quiet 19 (.quiet 20 (.quiet 21 (.quiet 22 (.quiet 23 (.quiet 24 (.quiet 25 (.quiet 26 (.fin)))))))))))))))))))))))))))) (by kernel_rfl) ?_
          simp only [go_sem, ↓reduceIte, Nat.reduceLT, Nat.reduceLeDiff, Nat.reduceAdd, Nat.reduceSub, Nat.reduceMul, Nat.reduceEqDiff, Nat.reduceBEq, Nat.reduceMod, Nat.reduceDiv, Int.reduceToNat, reduceCtorEq, Int.reduceLT, Int.reduceLE, Int.reduceGT, Int.reduceGE, Int.reduceAdd, Int.reduceSub, Int.reduceMul, Int.reduceNeg, Int.reduceEq, Int.reduceNe, Int.reduceBNe, Int.reduceBEq, Int.reduceDiv]
          refine finTup ?_
          show resOf _ _ [.cell 2 25, .tmp 3] = _
          simp only [go_sem, ↓reduceIte, Nat.reduceLT, Nat.reduceLeDiff, Nat.reduceAdd, Nat.reduceSub, Nat.reduceMul, Nat.reduceEqDiff, Nat.reduceBEq, Nat.reduceMod, Nat.reduceDiv, Int.reduceToNat, reduceCtorEq, Int.reduceLT, Int.reduceLE, Int.reduceGT, Int.reduceGE, Int.reduceAdd, Int.reduceSub, Int.reduceMul, Int.reduceNeg, Int.reduceEq, Int.reduceNe, Int.reduceBNe, Int.reduceBEq, Int.reduceDiv]
        · have hlim : sumCost (l.take i) < U := hu.sum
          have hc : costOf x < U := (validTx_parts hv).2.2.2.2.2
          have hadd := c_u256_Add (sumCost (l.take i)) (costOf x) hlim hc
          have wsub : 0 < i → IntKind.i64.wrap ((i : Int) - 1) = ((i - 1 : Nat) : Int) := fun h => by rw [wi64 (by omega) (by omega)]; omega
          have no : ¬ ChainP l → chainOk l = false := chainOk_no
          rcases Nat.eq_zero_or_pos i with hz | hpos
          · have hk : ∀ a, l[0]? = some a → x.frm = a.frm ∧ x.nonce = a.nonce + i := fun a' e => by
              subst hz
              rw [ex] at e; cases e
              exact ⟨rfl, by omega⟩
            have hb : decide ((i : Int) > 0) = false := decide_eq_false (by omega)
            simp only [go_sem, ↓reduceIte, Nat.reduceLT, Nat.reduceLeDiff, Nat.reduceAdd, Nat.reduceSub, Nat.reduceMul, Nat.reduceEqDiff, Nat.reduceBEq, Nat.reduceMod, Nat.reduceDiv, Int.reduceToNat, reduceCtorEq, Int.reduceLT, Int.reduceLE, Int.reduceGT, Int.reduceGE, Int.reduceAdd, Int.reduceSub, Int.reduceMul, Int.reduceNeg, Int.reduceEq, Int.reduceNe, Int.reduceBNe, Int.reduceBEq, Int.reduceDiv, u]
            refine ex_draw [] [] (.quiet 0 (.quiet 1 (.quiet 2 (.quiet 3 (.quiet 4 (.quiet 5 (.quiet 6 (.quiet 7 (.quiet 8 (.quiet 9 (.quiet 10 (.quiet 11 (.quiet 12 (.quiet 13 (.quiet 14 (.quiet 15 (.quiet 16 (.quiet 17 (.quiet 18 (.quiet 19 (.quiet 20 (.quiet 21 (.quiet 22 (.quiet 23 (.quiet 24 (.quiet 25 (.quiet 26 (.fin)))))))))))))))))))))))))))) (by kernel_rfl) ?_
            simp only [go_sem, ↓reduceIte, Nat.reduceLT, Nat.reduceLeDiff, Nat.reduceAdd, Nat.reduceSub, Nat.reduceMul, Nat.reduceEqDiff, Nat.reduceBEq, Nat.reduceMod, Nat.reduceDiv, Int.reduceToNat, reduceCtorEq, Int.reduceLT, Int.reduceLE, Int.reduceGT, Int.reduceGE, Int.reduceAdd, Int.reduceSub, Int.reduceMul, Int.reduceNeg, Int.reduceEq, Int.reduceNe, Int.reduceBNe, Int.reduceBEq, Int.reduceDiv, hb]
            rcases Decidable.em (sumCost (l.take i) + costOf x < U) with hs | hs
            · rw [if_pos hs, if_pos hs] at hadd
              refine ex_call (by exact hadd) ?_
              simp only [go_sem, ↓reduceIte, Nat.reduceLT, Nat.reduceLeDiff, Nat.reduceAdd, Nat.reduceSub, Nat.reduceMul, Nat.reduceEqDiff, Nat.reduceBEq, Nat.reduceMod, Nat.reduceDiv, Int.reduceToNat, reduceCtorEq, Int.reduceLT, Int.reduceLE, Int.reduceGT, Int.reduceGE, Int.reduceAdd, Int.reduceSub, Int.reduceMul, Int.reduceNeg, Int.reduceEq, Int.reduceNe, Int.reduceBNe, Int.reduceBEq, Int.reduceDiv, u]
              refine next (i + 1) _ (hu.succ ex hv hk hs) (by omega) ?_
              rw [← wi64_nat i (by omega), sumCost_succ ex]
              simp only [ASt.keep, consIf, keepL, keepV, AV.isBot, List.contains_cons, List.contains_nil, Nat.reduceBEq, Bool.or_false, Bool.false_or, Bool.or_true, Bool.true_or, beq_self_eq_true, Bool.false_eq_true, ↓reduceIte, if_false, if_true]
            · rw [if_neg hs, if_neg hs] at hadd
              rw [bad (no fun k => hs (Nat.lt_of_le_of_lt (by rw [← sumCost_succ ex]; exact sumCost_take l (i + 1)) k.sum))]
              refine ex_call (by exact hadd) ?_
              simp only [go_sem, ↓reduceIte, Nat.reduceLT, Nat.reduceLeDiff, Nat.reduceAdd, Nat.reduceSub, Nat.reduceMul, Nat.reduceEqDiff, Nat.reduceBEq, Nat.reduceMod, Nat.reduceDiv, Int.reduceToNat, reduceCtorEq, Int.reduceLT, Int.reduceLE, Int.reduceGT, Int.reduceGE, Int.reduceAdd, Int.reduceSub, Int.reduceMul, Int.reduceNeg, Int.reduceEq, Int.reduceNe, Int.reduceBNe, Int.reduceBEq, Int.reduceDiv, u_zero]
              refine finTup ?_
              show resOf _ _ [.cell 2 25, .tmp 3] = _
              simp only [go_sem, ↓reduceIte, Nat.reduceLT, Nat.reduceLeDiff, Nat.reduceAdd, Nat.reduceSub, Nat.reduceMul, Nat.reduceEqDiff, Nat.reduceBEq, Nat.reduceMod, Nat.reduceDiv, Int.reduceToNat, reduceCtorEq, Int.reduceLT, Int.reduceLE, Int.reduceGT, Int.reduceGE, Int.reduceAdd, Int.reduceSub, Int.reduceMul, Int.reduceNeg, Int.reduceEq, Int.reduceNe, Int.reduceBNe, Int.reduceBEq, Int.reduceDiv]
          · obtain ⟨p, ep⟩ : ∃ p, l[i - 1]? = some p := ⟨_, List.getElem?_eq_getElem (by omega)⟩
            have hb : decide ((i : Int) > 0) = true := decide_eq_true (by omega)
            have hpl := hu.link (i - 1) a p (by omega) ea ep
            have hpv := (validTx_parts (hu.valid (i - 1) p (by omega) ep)).2.1
            have w1 := wsub hpos
            have w2 : IntKind.i64.wrap (p.nonce + 1) = p.nonce + 1 := wi64 (by omega) (by omega)
            cases hf : (x.frm != a.frm)
            case' true =>
              rw [bad (no fun k => by
                have := (k.link i a x ea ex).1
                rw [this] at hf
                simp at hf)]
              simp only [go_sem, ↓reduceIte, Nat.reduceLT, Nat.reduceLeDiff, Nat.reduceAdd, Nat.reduceSub, Nat.reduceMul, Nat.reduceEqDiff, Nat.reduceBEq, Nat.reduceMod, Nat.reduceDiv, Int.reduceToNat, reduceCtorEq, Int.reduceLT, Int.reduceLE, Int.reduceGT, Int.reduceGE, Int.reduceAdd, Int.reduceSub, Int.reduceMul, Int.reduceNeg, Int.reduceEq, Int.reduceNe, Int.reduceBNe, Int.reduceBEq, Int.reduceDiv, u]
              refine ex_draw [] [] (.quiet 0 (.quiet 1 (.quiet 2 (.quiet 3 (.quiet 4 (.quiet 5 (.quiet 6 (.quiet 7 (.quiet 8 (.quiet 9 (.quiet 10 (.quiet 11 (.quiet 12 (.quiet 13 (.quiet 14 (.quiet 15 (.quiet 16 (.quiet 17 (.quiet 18 (.quiet 19 (.quiet 20 (.quiet 21 (.quiet 22 (.quiet 23 (.quiet 24 (.quiet 25 (.quiet 26 (.fin)))))))))))))))))))))))))))) (by kernel_rfl) ?_
              simp only [go_sem, ↓reduceIte, Nat.reduceLT, Nat.reduceLeDiff, Nat.reduceAdd, Nat.reduceSub, Nat.reduceMul, Nat.reduceEqDiff, Nat.reduceBEq, Nat.reduceMod, Nat.reduceDiv, Int.reduceToNat, reduceCtorEq, Int.reduceLT, Int.reduceLE, Int.reduceGT, Int.reduceGE, Int.reduceAdd, Int.reduceSub, Int.reduceMul, Int.reduceNeg, Int.reduceEq, Int.reduceNe, Int.reduceBNe, Int.reduceBEq, Int.reduceDiv, hb, hf, w1, w2, Int.toNat_natCast, Int.toNat_zero, List.getElem?_map, List.length_map, ea, ep, TxD.av, TxD.cells]
              repeat with_reducible refine And.intro (by first | omega | (simp only [List.length_cons, List.length_append, List.length_nil, List.length_map, List.length_take, List.length_drop, List.length_set]; omega)) ?_
              try simp only [go_sem, ↓reduceIte, Nat.reduceLT, Nat.reduceLeDiff, Nat.reduceAdd, Nat.reduceSub, Nat.reduceMul, Nat.reduceEqDiff, Nat.reduceBEq, Nat.reduceMod, Nat.reduceDiv, Int.reduceToNat, reduceCtorEq, Int.reduceLT, Int.reduceLE, Int.reduceGT, Int.reduceGE, Int.reduceAdd, Int.reduceSub, Int.reduceMul, Int.reduceNeg, Int.reduceEq, Int.reduceNe, Int.reduceBNe, Int.reduceBEq, Int.reduceDiv]
              refine finTup ?_
              show resOf _ _ [.cell 2 25, .tmp 3] = _
              simp only [go_sem, ↓reduceIte, Nat.reduceLT, Nat.reduceLeDiff, Nat.reduceAdd, Nat.reduceSub, Nat.reduceMul, Nat.reduceEqDiff, Nat.reduceBEq, Nat.reduceMod, Nat.reduceDiv, Int.reduceToNat, reduceCtorEq, Int.reduceLT, Int.reduceLE, Int.reduceGT, Int.reduceGE, Int.reduceAdd, Int.reduceSub, Int.reduceMul, Int.reduceNeg, Int.reduceEq, Int.reduceNe, Int.reduceBNe, Int.reduceBEq, Int.reduceDiv]
            cases hn : (x.nonce != p.nonce + 1)
            case' true =>
              rw [bad (no fun k => by
                have := (k.link i a x ea ex).2
                have e2 : x.nonce = p.nonce + 1 := by omega
                rw [e2] at hn
                simp at hn)]
              simp only [go_sem, ↓reduceIte, Nat.reduceLT, Nat.reduceLeDiff, Nat.reduceAdd, Nat.reduceSub, Nat.reduceMul, Nat.reduceEqDiff, Nat.reduceBEq, Nat.reduceMod, Nat.reduceDiv, Int.reduceToNat, reduceCtorEq, Int.reduceLT, Int.reduceLE, Int.reduceGT, Int.reduceGE, Int.reduceAdd, Int.reduceSub, Int.reduceMul, Int.reduceNeg, Int.reduceEq, Int.reduceNe, Int.reduceBNe, Int.reduceBEq, Int.reduceDiv, u]
              refine ex_draw [] [] (.quiet 0 (.quiet 1 (.quiet 2 (.quiet 3 (.quiet 4 (.quiet 5 (.quiet 6 (.quiet 7 (.quiet 8 (.quiet 9 (.quiet 10 (.quiet 11 (.quiet 12 (.quiet 13 (.quiet 14 (.quiet 15 (.quiet 16 (.quiet 17 (.quiet 18 (.quiet 19 (.quiet 20 (.quiet 21 (.quiet 22 (.quiet 23 (.quiet 24 (.quiet 25 (.quiet 26 (.fin)))))))))))))))))))))))))))) (by kernel_rfl) ?_
              simp only [go_sem, ↓reduceIte, Nat.reduceLT, Nat.reduceLeDiff, Nat.reduceAdd, Nat.reduceSub, Nat.reduceMul, Nat.reduceEqDiff, Nat.reduceBEq, Nat.reduceMod, Nat.reduceDiv, Int.reduceToNat, reduceCtorEq, Int.reduceLT, Int.reduceLE, Int.reduceGT, Int.reduceGE, Int.reduceAdd, Int.reduceSub, Int.reduceMul, Int.reduceNeg, Int.reduceEq, Int.reduceNe, Int.reduceBNe, Int.reduceBEq, Int.reduceDiv, hb, hf, hn, w1, w2, Int.toNat_natCast, Int.toNat_zero, List.getElem?_map, List.length_map, ea, ep, TxD.av, TxD.cells]
              repeat with_reducible refine And.intro (by first | omega | (simp only [List.length_cons, List.length_append, List.length_nil, List.length_map, List.length_take, List.length_drop, List.length_set]; omega)) ?_
              try simp only [go_sem, ↓reduceIte, Nat.reduceLT, Nat.reduceLeDiff, Nat.reduceAdd, Nat.reduceSub, Nat.reduceMul, Nat.reduceEqDiff, Nat.reduceBEq, Nat.reduceMod, Nat.reduceDiv, Int.reduceToNat, reduceCtorEq, Int.reduceLT, Int.reduceLE, Int.reduceGT, Int.reduceGE, Int.reduceAdd, Int.reduceSub, Int.reduceMul, Int.reduceNeg, Int.reduceEq, Int.reduceNe, Int.reduceBNe, Int.reduceBEq, Int.reduceDiv]
              refine finTup ?_
              show resOf _ _ [.cell 2 25, .tmp 3] = _
              simp only [go_sem, ↓reduceIte, Nat.reduceLT, Nat.reduceLeDiff, Nat.reduceAdd, Nat.reduceSub, Nat.reduceMul, Nat.reduceEqDiff, Nat.reduceBEq, Nat.reduceMod, Nat.reduceDiv, Int.reduceToNat, reduceCtorEq, Int.reduceLT, Int.reduceLE, Int.reduceGT, Int.reduceGE, Int.reduceAdd, Int.reduceSub, Int.reduceMul, Int.reduceNeg, Int.reduceEq, Int.reduceNe, Int.reduceBNe, Int.reduceBEq, Int.reduceDiv]
            have hf' : x.frm = a.frm := by simpa using hf
            have hn' : x.nonce = p.nonce + 1 := by simpa using hn
            have hk : ∀ a, l[0]? = some a → x.frm = a.frm ∧ x.nonce = a.nonce + i := fun a' e => by
              rw [ea] at e; cases e
              exact ⟨hf', by omega⟩
            simp only [go_sem, ↓reduceIte, Nat.reduceLT, Nat.reduceLeDiff, Nat.reduceAdd, Nat.reduceSub, Nat.reduceMul, Nat.reduceEqDiff, Nat.reduceBEq, Nat.reduceMod, Nat.reduceDiv, Int.reduceToNat, reduceCtorEq, Int.reduceLT, Int.reduceLE, Int.reduceGT, Int.reduceGE, Int.reduceAdd, Int.reduceSub, Int.reduceMul, Int.reduceNeg, Int.reduceEq, Int.reduceNe, Int.reduceBNe, Int.reduceBEq, Int.reduceDiv, u]
            refine ex_draw [] [] (.quiet 0 (.quiet 1 (.quiet 2 (.quiet 3 (.quiet 4 (.quiet 5 (.quiet 6 (.quiet 7 (.quiet 8 (.quiet 9 (.quiet 10 (.quiet 11 (.quiet 12 (.quiet 13 (.quiet 14 (.quiet 15 (.quiet 16 (.quiet 17 (.quiet 18 (.quiet 19 (.quiet 20 (.quiet 21 (.quiet 22 (.quiet 23 (.quiet 24 (.quiet 25 (.quiet 26 (.fin)))))))))))))))))))))))))))) (by kernel_rfl) ?_
            simp only [go_sem, ↓reduceIte, Nat.reduceLT, Nat.reduceLeDiff, Nat.reduceAdd, Nat.reduceSub, Nat.reduceMul, Nat.reduceEqDiff, Nat.reduceBEq, Nat.reduceMod, Nat.reduceDiv, Int.reduceToNat, reduceCtorEq, Int.reduceLT, Int.reduceLE, Int.reduceGT, Int.reduceGE, Int.reduceAdd, Int.reduceSub, Int.reduceMul, Int.reduceNeg, Int.reduceEq, Int.reduceNe, Int.reduceBNe, Int.reduceBEq, Int.reduceDiv, hb, hf, hn, w1, w2, Int.toNat_natCast, Int.toNat_zero, List.getElem?_map, List.length_map, ea, ep, TxD.av, TxD.cells]
            repeat with_reducible refine And.intro (by first | omega | (simp only [List.length_cons, List.length_append, List.length_nil, List.length_map, List.length_take, List.length_drop, List.length_set]; omega)) ?_
            rcases Decidable.em (sumCost (l.take i) + costOf x < U) with hs | hs
            · rw [if_pos hs, if_pos hs] at hadd
              refine ex_call (by exact hadd) ?_
              simp only [go_sem, ↓reduceIte, Nat.reduceLT, Nat.reduceLeDiff, Nat.reduceAdd, Nat.reduceSub, Nat.reduceMul, Nat.reduceEqDiff, Nat.reduceBEq, Nat.reduceMod, Nat.reduceDiv, Int.reduceToNat, reduceCtorEq, Int.reduceLT, Int.reduceLE, Int.reduceGT, Int.reduceGE, Int.reduceAdd, Int.reduceSub, Int.reduceMul, Int.reduceNeg, Int.reduceEq, Int.reduceNe, Int.reduceBNe, Int.reduceBEq, Int.reduceDiv, u]
              refine next (i + 1) _ (hu.succ ex hv hk hs) (by omega) ?_
              rw [← wi64_nat i (by omega), sumCost_succ ex]
              simp only [ASt.keep, consIf, keepL, keepV, AV.isBot, List.contains_cons, List.contains_nil, Nat.reduceBEq, Bool.or_false, Bool.false_or, Bool.or_true, Bool.true_or, beq_self_eq_true, Bool.false_eq_true, ↓reduceIte, if_false, if_true]
            · rw [if_neg hs, if_neg hs] at hadd
              rw [bad (no fun k => hs (Nat.lt_of_le_of_lt (by rw [← sumCost_succ ex]; exact sumCost_take l (i + 1)) k.sum))]
              refine ex_call (by exact hadd) ?_
              simp only [go_sem, ↓reduceIte, Nat.reduceLT, Nat.reduceLeDiff, Nat.reduceAdd, Nat.reduceSub, Nat.reduceMul, Nat.reduceEqDiff, Nat.reduceBEq, Nat.reduceMod, Nat.reduceDiv, Int.reduceToNat, reduceCtorEq, Int.reduceLT, Int.reduceLE, Int.reduceGT, Int.reduceGE, Int.reduceAdd, Int.reduceSub, Int.reduceMul, Int.reduceNeg, Int.reduceEq, Int.reduceNe, Int.reduceBNe, Int.reduceBEq, Int.reduceDiv, u_zero]
              refine finTup ?_
              show resOf _ _ [.cell 2 25, .tmp 3] = _
              simp only [go_sem, ↓reduceIte, Nat.reduceLT, Nat.reduceLeDiff, Nat.reduceAdd, Nat.reduceSub, Nat.reduceMul, Nat.reduceEqDiff, Nat.reduceBEq, Nat.reduceMod, Nat.reduceDiv, Int.reduceToNat, reduceCtorEq, Int.reduceLT, Int.reduceLE, Int.reduceGT, Int.reduceGE, Int.reduceAdd, Int.reduceSub, Int.reduceMul, Int.reduceNeg, Int.reduceEq, Int.reduceNe, Int.reduceBNe, Int.reduceBEq, Int.reduceDiv]
      · have hge : i = l.length := by simp at h; omega
        subst hge
        have hy : chainOk l = true := chainOk_yes (hu.done hl6)
        rw [hres, hy, if_pos rfl, List.take_length]
        simp only [go_sem, ↓reduceIte, Nat.reduceLT, Nat.reduceLeDiff, Nat.reduceAdd, Nat.reduceSub, Nat.reduceMul, Nat.reduceEqDiff, Nat.reduceBEq, Nat.reduceMod, Nat.reduceDiv, Int.reduceToNat, reduceCtorEq, Int.reduceLT, Int.reduceLE, Int.reduceGT, Int.reduceGE, Int.reduceAdd, Int.reduceSub, Int.reduceMul, Int.reduceNeg, Int.reduceEq, Int.reduceNe, Int.reduceBNe, Int.reduceBEq, Int.reduceDiv, u]
        refine finTup ?_
        show resOf _ _ [.cell 2 25, .tmp 3] = _
        simp only [go_sem, ↓reduceIte, Nat.reduceLT, Nat.reduceLeDiff, Nat.reduceAdd, Nat.reduceSub, Nat.reduceMul, Nat.reduceEqDiff, Nat.reduceBEq, Nat.reduceMod, Nat.reduceDiv, Int.reduceToNat, reduceCtorEq, Int.reduceLT, Int.reduceLE, Int.reduceGT, Int.reduceGE, Int.reduceAdd, Int.reduceSub, Int.reduceMul, Int.reduceNeg, Int.reduceEq, Int.reduceNe, Int.reduceBNe, Int.reduceBEq, Int.reduceDiv]
theorem c_chain_Check (l : List TxD) (hl : l.length * 200 ≤ reachBytes) (hok : ∀ a ∈ l, a.ok) :
    Contract Try.prog 31 [txs l] (.int .i64 (if chainOk l = true then 0 else 1)) := by
  refine contract_of (C := cf 12 [0, 2, 4, 11] (fun _ => [])) (cf_ok _ _ _) (fn := Try.f31) Try.func31 (by kernel_rfl) rfl (by kernel_rfl) (by simp [cf]) (plain1 (txs_plain l)) (by decide) (noCell (by kernel_rfl)) ?_
  simp only [go_sem, ↓reduceIte, Nat.reduceLT, Nat.reduceLeDiff, Nat.reduceAdd, Nat.reduceSub, Nat.reduceMul, Nat.reduceEqDiff, Nat.reduceBEq, Nat.reduceMod, Nat.reduceDiv, Int.reduceToNat, reduceCtorEq, Int.reduceLT, Int.reduceLE, Int.reduceGT, Int.reduceGE, Int.reduceAdd, Int.reduceSub, Int.reduceMul, Int.reduceNeg, Int.reduceEq, Int.reduceNe, Int.reduceBNe, Int.reduceBEq, Int.reduceDiv, txs]
  refine ex_call (by exact c_chain_spent l hl hok) ?_
  cases h : chainOk l
  all_goals simp only [go_sem, ↓reduceIte, Nat.reduceLT, Nat.reduceLeDiff, Nat.reduceAdd, Nat.reduceSub, Nat.reduceMul, Nat.reduceEqDiff, Nat.reduceBEq, Nat.reduceMod, Nat.reduceDiv, Int.reduceToNat, reduceCtorEq, Int.reduceLT, Int.reduceLE, Int.reduceGT, Int.reduceGE, Int.reduceAdd, Int.reduceSub, Int.reduceMul, Int.reduceNeg, Int.reduceEq, Int.reduceNe, Int.reduceBNe, Int.reduceBEq, Int.reduceDiv, u]
  all_goals refine finOne ?_ (fun _ e => by cases e)
  all_goals show resOf _ _ [.tmp 2] = _
  all_goals simp only [go_sem, ↓reduceIte, Nat.reduceLT, Nat.reduceLeDiff, Nat.reduceAdd, Nat.reduceSub, Nat.reduceMul, Nat.reduceEqDiff, Nat.reduceBEq, Nat.reduceMod, Nat.reduceDiv, Int.reduceToNat, reduceCtorEq, Int.reduceLT, Int.reduceLE, Int.reduceGT, Int.reduceGE, Int.reduceAdd, Int.reduceSub, Int.reduceMul, Int.reduceNeg, Int.reduceEq, Int.reduceNe, Int.reduceBNe, Int.reduceBEq, Int.reduceDiv]
theorem c_chain_Spent (l : List TxD) (hl : l.length * 200 ≤ reachBytes) (hok : ∀ a ∈ l, a.ok) :
    Contract Try.prog 40 [txs l] (.tup [u (if chainOk l = true then sumCost l else 0), .int .i64 (if chainOk l = true then 0 else 1)]) := by
  refine contract_of (C := cf 15 [0, 2, 3, 4, 5, 12] (fun _ => [])) (cf_ok _ _ _) (fn := Try.f40) Try.func40 (by kernel_rfl) rfl (by kernel_rfl) (by simp [cf]) (plain1 (txs_plain l)) (by decide) (cellsOk (by kernel_rfl)) ?_
  simp only [go_sem, ↓reduceIte, Nat.reduceLT, Nat.reduceLeDiff, Nat.reduceAdd, Nat.reduceSub, Nat.reduceMul, Nat.reduceEqDiff, Nat.reduceBEq, Nat.reduceMod, Nat.reduceDiv, Int.reduceToNat, reduceCtorEq, Int.reduceLT, Int.reduceLE, Int.reduceGT, Int.reduceGE, Int.reduceAdd, Int.reduceSub, Int.reduceMul, Int.reduceNeg, Int.reduceEq, Int.reduceNe, Int.reduceBNe, Int.reduceBEq, Int.reduceDiv, txs]
  refine ex_call (by exact c_chain_spent l hl hok) ?_
  cases h : chainOk l
  · simp only [go_sem, ↓reduceIte, Nat.reduceLT, Nat.reduceLeDiff, Nat.reduceAdd, Nat.reduceSub, Nat.reduceMul, Nat.reduceEqDiff, Nat.reduceBEq, Nat.reduceMod, Nat.reduceDiv, Int.reduceToNat, reduceCtorEq, Int.reduceLT, Int.reduceLE, Int.reduceGT, Int.reduceGE, Int.reduceAdd, Int.reduceSub, Int.reduceMul, Int.reduceNeg, Int.reduceEq, Int.reduceNe, Int.reduceBNe, Int.reduceBEq, Int.reduceDiv, u_zero]
    refine finTup ?_
    show resOf _ _ [.cell 2 25, .tmp 3] = _
    simp only [go_sem, ↓reduceIte, Nat.reduceLT, Nat.reduceLeDiff, Nat.reduceAdd, Nat.reduceSub, Nat.reduceMul, Nat.reduceEqDiff, Nat.reduceBEq, Nat.reduceMod, Nat.reduceDiv, Int.reduceToNat, reduceCtorEq, Int.reduceLT, Int.reduceLE, Int.reduceGT, Int.reduceGE, Int.reduceAdd, Int.reduceSub, Int.reduceMul, Int.reduceNeg, Int.reduceEq, Int.reduceNe, Int.reduceBNe, Int.reduceBEq, Int.reduceDiv]
  · simp only [go_sem, ↓reduceIte, Nat.reduceLT, Nat.reduceLeDiff, Nat.reduceAdd, Nat.reduceSub, Nat.reduceMul, Nat.reduceEqDiff, Nat.reduceBEq, Nat.reduceMod, Nat.reduceDiv, Int.reduceToNat, reduceCtorEq, Int.reduceLT, Int.reduceLE, Int.reduceGT, Int.reduceGE, Int.reduceAdd, Int.reduceSub, Int.reduceMul, Int.reduceNeg, Int.reduceEq, Int.reduceNe, Int.reduceBNe, Int.reduceBEq, Int.reduceDiv, u]
    refine finTup ?_
    show resOf _ _ [.cell 2 25, .tmp 3] = _
    simp only [go_sem, ↓reduceIte, Nat.reduceLT, Nat.reduceLeDiff, Nat.reduceAdd, Nat.reduceSub, Nat.reduceMul, Nat.reduceEqDiff, Nat.reduceBEq, Nat.reduceMod, Nat.reduceDiv, Int.reduceToNat, reduceCtorEq, Int.reduceLT, Int.reduceLE, Int.reduceGT, Int.reduceGE, Int.reduceAdd, Int.reduceSub, Int.reduceMul, Int.reduceNeg, Int.reduceEq, Int.reduceNe, Int.reduceBNe, Int.reduceBEq, Int.reduceDiv]
end Go.Proofs.Ytpepfhbfooeoeaa.VA
end
section
/- A transaction's cells. -/
namespace Go.Proofs.Ytpepfhbfooeoeaa.VA
set_option maxRecDepth 10000
set_option linter.unusedSimpArgs false
set_option linter.unusedVariables false
set_option maxHeartbeats 16000000

abbrev txE (a : TxD) : AV := .agg [.int .i64 a.frm, .int .i64 a.nonce, .int .u64 (lim a.tip 0), .int .u64 (lim a.tip 1), .int .u64 (lim a.tip 2), .int .u64 (lim a.tip 3), .int .u64 (lim a.cap 0), .int .u64 (lim a.cap 1), .int .u64 (lim a.cap 2), .int .u64 (lim a.cap 3), .int .u64 (lim a.bcap 0), .int .u64 (lim a.bcap 1), .int .u64 (lim a.bcap 2), .int .u64 (lim a.bcap 3), .int .u64 (lim a.value 0), .int .u64 (lim a.value 1), .int .u64 (lim a.value 2), .int .u64 (lim a.value 3), .int .i64 a.gas, .sl false 1 (a.hashes.map (AV.int .u64)), .sl false 1 (a.blobs.map AV.str)]
theorem r_Copy (t : TxD) (h : t.ok) : Contract Try.prog 24 [txE t] (txE t) := c_CopyTx t h
theorem r_Eq (a b : TxD) (ha : a.ok) (hb : b.ok) : Contract Try.prog 21 [txE a, txE b] (.bool (decide (a = b))) := c_EqTx a b ha hb
end Go.Proofs.Ytpepfhbfooeoeaa.VA
end
section
/- tx.Copy. -/
namespace Go.Proofs.Ytpepfhbfooeoeaa.VA
set_option maxRecDepth 10000
set_option linter.unusedSimpArgs false
set_option linter.unusedVariables false
set_option maxHeartbeats 8000000

theorem c_Clone_u64 (l : List Int) (hl : l.length * 8 ≤ reachBytes) : Contract Try.prog 115 [ints .u64 l] (.own false 1 (l.map (AV.int .u64))) := by
  unfold reachBytes at hl
  refine contract_of (C := cf 8 [0, 2, 4] (fun _ => [])) (cf_ok _ _ _) (fn := Try.f115) Try.func115 (by kernel_rfl) rfl (by kernel_rfl) (by simp [cf]) (plain1 (ints_plain _ l)) (by decide) (noCell (by kernel_rfl)) ?_
  simp only [go_sem, ↓reduceIte, Nat.reduceLT, Nat.reduceLeDiff, Nat.reduceAdd, Nat.reduceSub, Nat.reduceMul, Nat.reduceEqDiff, Nat.reduceBEq, Nat.reduceMod, Nat.reduceDiv, Int.reduceToNat, reduceCtorEq, Int.reduceLT, Int.reduceLE, Int.reduceGT, Int.reduceGE, Int.reduceAdd, Int.reduceSub, Int.reduceMul, Int.reduceNeg, Int.reduceEq, Int.reduceNe, Int.reduceBNe, Int.reduceBEq, Int.reduceDiv, ints]
  refine ex_bothI (fun h => ?_) ?_
  · rw [h]
    simp only [go_sem, ↓reduceIte, Nat.reduceLT, Nat.reduceLeDiff, Nat.reduceAdd, Nat.reduceSub, Nat.reduceMul, Nat.reduceEqDiff, Nat.reduceBEq, Nat.reduceMod, Nat.reduceDiv, Int.reduceToNat, reduceCtorEq, Int.reduceLT, Int.reduceLE, Int.reduceGT, Int.reduceGE, Int.reduceAdd, Int.reduceSub, Int.reduceMul, Int.reduceNeg, Int.reduceEq, Int.reduceNe, Int.reduceBNe, Int.reduceBEq, Int.reduceDiv]
    refine finOne ?_ (fun _ e => by cases e)
    show resOf _ _ [.tmp 2] = _
    simp only [go_sem, ↓reduceIte, Nat.reduceLT, Nat.reduceLeDiff, Nat.reduceAdd, Nat.reduceSub, Nat.reduceMul, Nat.reduceEqDiff, Nat.reduceBEq, Nat.reduceMod, Nat.reduceDiv, Int.reduceToNat, reduceCtorEq, Int.reduceLT, Int.reduceLE, Int.reduceGT, Int.reduceGE, Int.reduceAdd, Int.reduceSub, Int.reduceMul, Int.reduceNeg, Int.reduceEq, Int.reduceNe, Int.reduceBNe, Int.reduceBEq, Int.reduceDiv]
  · simp only [go_sem, ↓reduceIte, Nat.reduceLT, Nat.reduceLeDiff, Nat.reduceAdd, Nat.reduceSub, Nat.reduceMul, Nat.reduceEqDiff, Nat.reduceBEq, Nat.reduceMod, Nat.reduceDiv, Int.reduceToNat, reduceCtorEq, Int.reduceLT, Int.reduceLE, Int.reduceGT, Int.reduceGE, Int.reduceAdd, Int.reduceSub, Int.reduceMul, Int.reduceNeg, Int.reduceEq, Int.reduceNe, Int.reduceBNe, Int.reduceBEq, Int.reduceDiv]
    repeat with_reducible refine And.intro (by first | omega | (simp only [List.length_cons, List.length_append, List.length_nil, List.length_map, List.length_take, List.length_drop, List.length_set]; omega)) ?_
    refine finOne ?_ (fun _ e => by cases e)
    show resOf _ _ [.tmp 2] = _
    simp only [go_sem, ↓reduceIte, Nat.reduceLT, Nat.reduceLeDiff, Nat.reduceAdd, Nat.reduceSub, Nat.reduceMul, Nat.reduceEqDiff, Nat.reduceBEq, Nat.reduceMod, Nat.reduceDiv, Int.reduceToNat, reduceCtorEq, Int.reduceLT, Int.reduceLE, Int.reduceGT, Int.reduceGE, Int.reduceAdd, Int.reduceSub, Int.reduceMul, Int.reduceNeg, Int.reduceEq, Int.reduceNe, Int.reduceBNe, Int.reduceBEq, Int.reduceDiv]
theorem c_Clone_str (l : List (List UInt8)) (hl : l.length * 16 ≤ reachBytes) : Contract Try.prog 116 [strs l] (.own false 1 (l.map AV.str)) := by
  unfold reachBytes at hl
  refine contract_of (C := cf 8 [0, 2, 4] (fun _ => [])) (cf_ok _ _ _) (fn := Try.f116) Try.func116 (by kernel_rfl) rfl (by kernel_rfl) (by simp [cf]) (plain1 (strs_plain l)) (by decide) (noCell (by kernel_rfl)) ?_
  simp only [go_sem, ↓reduceIte, Nat.reduceLT, Nat.reduceLeDiff, Nat.reduceAdd, Nat.reduceSub, Nat.reduceMul, Nat.reduceEqDiff, Nat.reduceBEq, Nat.reduceMod, Nat.reduceDiv, Int.reduceToNat, reduceCtorEq, Int.reduceLT, Int.reduceLE, Int.reduceGT, Int.reduceGE, Int.reduceAdd, Int.reduceSub, Int.reduceMul, Int.reduceNeg, Int.reduceEq, Int.reduceNe, Int.reduceBNe, Int.reduceBEq, Int.reduceDiv, strs]
  refine ex_bothI (fun h => ?_) ?_
  · rw [h]
    simp only [go_sem, ↓reduceIte, Nat.reduceLT, Nat.reduceLeDiff, Nat.reduceAdd, Nat.reduceSub, Nat.reduceMul, Nat.reduceEqDiff, Nat.reduceBEq, Nat.reduceMod, Nat.reduceDiv, Int.reduceToNat, reduceCtorEq, Int.reduceLT, Int.reduceLE, Int.reduceGT, Int.reduceGE, Int.reduceAdd, Int.reduceSub, Int.reduceMul, Int.reduceNeg, Int.reduceEq, Int.reduceNe, Int.reduceBNe, Int.reduceBEq, Int.reduceDiv]
    refine finOne ?_ (fun _ e => by cases e)
    show resOf _ _ [.tmp 2] = _
    simp only [go_sem, ↓reduceIte, Nat.reduceLT, Nat.reduceLeDiff, Nat.reduceAdd, Nat.reduceSub, Nat.reduceMul, Nat.reduceEqDiff, Nat.reduceBEq, Nat.reduceMod, Nat.reduceDiv, Int.reduceToNat, reduceCtorEq, Int.reduceLT, Int.reduceLE, Int.reduceGT, Int.reduceGE, Int.reduceAdd, Int.reduceSub, Int.reduceMul, Int.reduceNeg, Int.reduceEq, Int.reduceNe, Int.reduceBNe, Int.reduceBEq, Int.reduceDiv]
  · simp only [go_sem, ↓reduceIte, Nat.reduceLT, Nat.reduceLeDiff, Nat.reduceAdd, Nat.reduceSub, Nat.reduceMul, Nat.reduceEqDiff, Nat.reduceBEq, Nat.reduceMod, Nat.reduceDiv, Int.reduceToNat, reduceCtorEq, Int.reduceLT, Int.reduceLE, Int.reduceGT, Int.reduceGE, Int.reduceAdd, Int.reduceSub, Int.reduceMul, Int.reduceNeg, Int.reduceEq, Int.reduceNe, Int.reduceBNe, Int.reduceBEq, Int.reduceDiv]
    repeat with_reducible refine And.intro (by first | omega | (simp only [List.length_cons, List.length_append, List.length_nil, List.length_map, List.length_take, List.length_drop, List.length_set]; omega)) ?_
    refine finOne ?_ (fun _ e => by cases e)
    show resOf _ _ [.tmp 2] = _
    simp only [go_sem, ↓reduceIte, Nat.reduceLT, Nat.reduceLeDiff, Nat.reduceAdd, Nat.reduceSub, Nat.reduceMul, Nat.reduceEqDiff, Nat.reduceBEq, Nat.reduceMod, Nat.reduceDiv, Int.reduceToNat, reduceCtorEq, Int.reduceLT, Int.reduceLE, Int.reduceGT, Int.reduceGE, Int.reduceAdd, Int.reduceSub, Int.reduceMul, Int.reduceNeg, Int.reduceEq, Int.reduceNe, Int.reduceBNe, Int.reduceBEq, Int.reduceDiv]
theorem c_tx_Copy (t : TxD) (h : t.ok) : Contract Try.prog 85 [t.av] t.av := by
  refine contract_of (C := cf 12 [1, 2] (fun _ => [])) (cf_ok _ _ _) (fn := Try.f85) Try.func85 (by kernel_rfl) rfl (by kernel_rfl) (by simp [cf]) (plain1 t.plain) (by decide) (cellsOk (by kernel_rfl)) ?_
  simp only [go_sem, ↓reduceIte, Nat.reduceLT, Nat.reduceLeDiff, Nat.reduceAdd, Nat.reduceSub, Nat.reduceMul, Nat.reduceEqDiff, Nat.reduceBEq, Nat.reduceMod, Nat.reduceDiv, Int.reduceToNat, reduceCtorEq, Int.reduceLT, Int.reduceLE, Int.reduceGT, Int.reduceGE, Int.reduceAdd, Int.reduceSub, Int.reduceMul, Int.reduceNeg, Int.reduceEq, Int.reduceNe, Int.reduceBNe, Int.reduceBEq, Int.reduceDiv, TxD.av, TxD.cells, ints, strs]
  refine ex_draw [7, 9] [] (.quiet 0 (.quiet 1 (.quiet 3 (.quiet 4 (.one 2 (.quiet 6 (.one 5 (.unlock (.one 7 (.quiet 8 (.one 9 (.fin)))))))))))) (by kernel_rfl) ?_
  simp only [go_sem, ↓reduceIte, Nat.reduceLT, Nat.reduceLeDiff, Nat.reduceAdd, Nat.reduceSub, Nat.reduceMul, Nat.reduceEqDiff, Nat.reduceBEq, Nat.reduceMod, Nat.reduceDiv, Int.reduceToNat, reduceCtorEq, Int.reduceLT, Int.reduceLE, Int.reduceGT, Int.reduceGE, Int.reduceAdd, Int.reduceSub, Int.reduceMul, Int.reduceNeg, Int.reduceEq, Int.reduceNe, Int.reduceBNe, Int.reduceBEq, Int.reduceDiv]
  refine ex_call (by exact c_Clone_u64 t.hashes h.hashes) ?_
  simp only [go_sem, ↓reduceIte, Nat.reduceLT, Nat.reduceLeDiff, Nat.reduceAdd, Nat.reduceSub, Nat.reduceMul, Nat.reduceEqDiff, Nat.reduceBEq, Nat.reduceMod, Nat.reduceDiv, Int.reduceToNat, reduceCtorEq, Int.reduceLT, Int.reduceLE, Int.reduceGT, Int.reduceGE, Int.reduceAdd, Int.reduceSub, Int.reduceMul, Int.reduceNeg, Int.reduceEq, Int.reduceNe, Int.reduceBNe, Int.reduceBEq, Int.reduceDiv]
  refine ex_call (by exact c_Clone_str t.blobs h.blobs) ?_
  simp only [go_sem, ↓reduceIte, Nat.reduceLT, Nat.reduceLeDiff, Nat.reduceAdd, Nat.reduceSub, Nat.reduceMul, Nat.reduceEqDiff, Nat.reduceBEq, Nat.reduceMod, Nat.reduceDiv, Int.reduceToNat, reduceCtorEq, Int.reduceLT, Int.reduceLE, Int.reduceGT, Int.reduceGE, Int.reduceAdd, Int.reduceSub, Int.reduceMul, Int.reduceNeg, Int.reduceEq, Int.reduceNe, Int.reduceBNe, Int.reduceBEq, Int.reduceDiv]
  refine finOneD (r' := t.dull) ?_ t.dull_av (fun _ e => by cases e) (fun _ e => by cases e)
  show resOf _ _ [.cell 2 29] = _
  simp only [go_sem, ↓reduceIte, Nat.reduceLT, Nat.reduceLeDiff, Nat.reduceAdd, Nat.reduceSub, Nat.reduceMul, Nat.reduceEqDiff, Nat.reduceBEq, Nat.reduceMod, Nat.reduceDiv, Int.reduceToNat, reduceCtorEq, Int.reduceLT, Int.reduceLE, Int.reduceGT, Int.reduceGE, Int.reduceAdd, Int.reduceSub, Int.reduceMul, Int.reduceNeg, Int.reduceEq, Int.reduceNe, Int.reduceBNe, Int.reduceBEq, Int.reduceDiv, TxD.dull]
end Go.Proofs.Ytpepfhbfooeoeaa.VA
end
section
/- Chains by the page; copies. -/
namespace Go.Proofs.Ytpepfhbfooeoeaa.VA
set_option maxRecDepth 10000
set_option linter.unusedSimpArgs false
set_option linter.unusedVariables false
set_option maxHeartbeats 8000000

theorem c_ref14_Spent (l : List TxD) (hl : l.length * 200 ≤ reachBytes) (hok : ∀ a ∈ l, a.ok) (hv : l.all validTx = true) :
    Contract Try.prog 38 [txs l] (.tup [u (if sumCost l < U then sumCost l else 0), .bool (decide (sumCost l < U))]) := by
  unfold reachBytes at hl
  obtain ⟨res, hres⟩ : ∃ res, res = (.tup [u (if sumCost l < U then sumCost l else 0), .bool (decide (sumCost l < U))] : AV) := ⟨_, rfl⟩
  rw [← hres]
  have hval : ∀ (i : Nat) t, l[i]? = some t → validTx t = true := fun i t e => List.all_eq_true.1 hv t (List.mem_of_getElem? e)
  refine contract_of (C := cf 36 [0, 2, 3, 4, 5, 6, 8, 9, 14, 32] (fun _ => [])) (cf_ok _ _ _) (fn := Try.f38) Try.func38 (by kernel_rfl) rfl (by kernel_rfl) (by simp [cf]) (plain1 (txs_plain l)) (by decide) (cellsOk (by kernel_rfl)) ?_
  simp only [go_sem, ↓reduceIte, Nat.reduceLT, Nat.reduceLeDiff, Nat.reduceAdd, Nat.reduceSub, Nat.reduceMul, Nat.reduceEqDiff, Nat.reduceBEq, Nat.reduceMod, Nat.reduceDiv, Int.reduceToNat, reduceCtorEq, Int.reduceLT, Int.reduceLE, Int.reduceGT, Int.reduceGE, Int.reduceAdd, Int.reduceSub, Int.reduceMul, Int.reduceNeg, Int.reduceEq, Int.reduceNe, Int.reduceBNe, Int.reduceBEq, Int.reduceDiv, txs, List.length_map]
  refine ex_iter [0, 2, 4, 5] (fun i : Nat => ⟨[(0, .sl false 21 (l.map TxD.av)), (2, .var 2 0), (4, .var 4 0), (5, .int .i64 i)], [(2, [.int .u64 0, .int .u64 0, .int .u64 0, .int .u64 0]), (4, [.int .u64 (lim (sumCost (l.take i)) 0), .int .u64 (lim (sumCost (l.take i)) 1), .int .u64 (lim (sumCost (l.take i)) 2), .int .u64 (lim (sumCost (l.take i)) 3)])], []⟩) (fun i => i ≤ l.length ∧ sumCost (l.take i) < U) (fun i => l.length - i) 0 ?_ ?_ ?_
  · simp only [ASt.keep, consIf, keepL, keepV, AV.isBot, List.contains_cons, List.contains_nil, Nat.reduceBEq, Bool.or_false, Bool.false_or, Bool.or_true, Bool.true_or, beq_self_eq_true, Bool.false_eq_true, ↓reduceIte, if_false, if_true]
    have := u_zero
    unfold u at this
    simp only [List.take_zero, sumCost]
    injection this with this
    rw [this]
    rfl
  · exact ⟨Nat.zero_le _, by simp [sumCost]; decide⟩
  · rintro n i ⟨hi, hs⟩ next
    simp only [go_sem, ↓reduceIte, Nat.reduceLT, Nat.reduceLeDiff, Nat.reduceAdd, Nat.reduceSub, Nat.reduceMul, Nat.reduceEqDiff, Nat.reduceBEq, Nat.reduceMod, Nat.reduceDiv, Int.reduceToNat, reduceCtorEq, Int.reduceLT, Int.reduceLE, Int.reduceGT, Int.reduceGE, Int.reduceAdd, Int.reduceSub, Int.reduceMul, Int.reduceNeg, Int.reduceEq, Int.reduceNe, Int.reduceBNe, Int.reduceBEq, Int.reduceDiv, List.length_map]
    refine ex_br (fun h => ?_) (fun h => ?_)
    · have hlt : i < l.length := by simpa using h
      obtain ⟨x, ex⟩ : ∃ x, l[i]? = some x := ⟨_, List.getElem?_eq_getElem hlt⟩
      have hx := hok x (List.mem_of_getElem? ex)
      obtain ⟨_, _, hg, _, hb, hc⟩ := validTx_parts (hval i x ex)
      have c1 := c_ref7_Cost x hx hg hb.2
      rw [if_pos hc, decide_eq_true hc] at c1
      have hadd := c_ref1_Add (sumCost (l.take i)) (costOf x) hs hc
      simp only [go_sem, ↓reduceIte, Nat.reduceLT, Nat.reduceLeDiff, Nat.reduceAdd, Nat.reduceSub, Nat.reduceMul, Nat.reduceEqDiff, Nat.reduceBEq, Nat.reduceMod, Nat.reduceDiv, Int.reduceToNat, reduceCtorEq, Int.reduceLT, Int.reduceLE, Int.reduceGT, Int.reduceGE, Int.reduceAdd, Int.reduceSub, Int.reduceMul, Int.reduceNeg, Int.reduceEq, Int.reduceNe, Int.reduceBNe, Int.reduceBEq, Int.reduceDiv, List.length_map, List.getElem?_map, ex, Int.toNat_natCast, TxD.av]
      repeat with_reducible refine And.intro (by first | omega | (simp only [List.length_cons, List.length_append, List.length_nil, List.length_map, List.length_take, List.length_drop, List.length_set]; omega)) ?_
      refine ex_call (by exact c1) ?_
      simp only [go_sem, ↓reduceIte, Nat.reduceLT, Nat.reduceLeDiff, Nat.reduceAdd, Nat.reduceSub, Nat.reduceMul, Nat.reduceEqDiff, Nat.reduceBEq, Nat.reduceMod, Nat.reduceDiv, Int.reduceToNat, reduceCtorEq, Int.reduceLT, Int.reduceLE, Int.reduceGT, Int.reduceGE, Int.reduceAdd, Int.reduceSub, Int.reduceMul, Int.reduceNeg, Int.reduceEq, Int.reduceNe, Int.reduceBNe, Int.reduceBEq, Int.reduceDiv, u]
      rcases Decidable.em (sumCost (l.take i) + costOf x < U) with hs2 | hs2
      · rw [if_pos hs2, decide_eq_true hs2] at hadd
        refine ex_call (by exact hadd) ?_
        simp only [go_sem, ↓reduceIte, Nat.reduceLT, Nat.reduceLeDiff, Nat.reduceAdd, Nat.reduceSub, Nat.reduceMul, Nat.reduceEqDiff, Nat.reduceBEq, Nat.reduceMod, Nat.reduceDiv, Int.reduceToNat, reduceCtorEq, Int.reduceLT, Int.reduceLE, Int.reduceGT, Int.reduceGE, Int.reduceAdd, Int.reduceSub, Int.reduceMul, Int.reduceNeg, Int.reduceEq, Int.reduceNe, Int.reduceBNe, Int.reduceBEq, Int.reduceDiv, u]
        refine next (i + 1) _ ⟨by omega, by rw [sumCost_succ ex]; exact hs2⟩ (by omega) ?_
        rw [← wi64_nat i (by omega), sumCost_succ ex]
        simp only [ASt.keep, consIf, keepL, keepV, AV.isBot, List.contains_cons, List.contains_nil, Nat.reduceBEq, Bool.or_false, Bool.false_or, Bool.or_true, Bool.true_or, beq_self_eq_true, Bool.false_eq_true, ↓reduceIte, if_false, if_true]
      · rw [if_neg hs2, decide_eq_false hs2] at hadd
        have hbig : ¬ sumCost l < U := fun k => hs2 (Nat.lt_of_le_of_lt (by rw [← sumCost_succ ex]; exact sumCost_take l (i + 1)) k)
        rw [if_neg hbig, decide_eq_false hbig, u_zero] at hres
        rw [hres]
        refine ex_call (by exact hadd) ?_
        simp only [go_sem, ↓reduceIte, Nat.reduceLT, Nat.reduceLeDiff, Nat.reduceAdd, Nat.reduceSub, Nat.reduceMul, Nat.reduceEqDiff, Nat.reduceBEq, Nat.reduceMod, Nat.reduceDiv, Int.reduceToNat, reduceCtorEq, Int.reduceLT, Int.reduceLE, Int.reduceGT, Int.reduceGE, Int.reduceAdd, Int.reduceSub, Int.reduceMul, Int.reduceNeg, Int.reduceEq, Int.reduceNe, Int.reduceBNe, Int.reduceBEq, Int.reduceDiv, u_zero]
        refine finTup ?_
        show resOf _ _ [.cell 2 25, .tmp 3] = _
        simp only [go_sem, ↓reduceIte, Nat.reduceLT, Nat.reduceLeDiff, Nat.reduceAdd, Nat.reduceSub, Nat.reduceMul, Nat.reduceEqDiff, Nat.reduceBEq, Nat.reduceMod, Nat.reduceDiv, Int.reduceToNat, reduceCtorEq, Int.reduceLT, Int.reduceLE, Int.reduceGT, Int.reduceGE, Int.reduceAdd, Int.reduceSub, Int.reduceMul, Int.reduceNeg, Int.reduceEq, Int.reduceNe, Int.reduceBNe, Int.reduceBEq, Int.reduceDiv]
    · have hge : i = l.length := by simp at h; omega
      subst hge
      rw [List.take_length] at hs
      rw [if_pos hs, decide_eq_true hs] at hres
      rw [hres, List.take_length]
      simp only [go_sem, ↓reduceIte, Nat.reduceLT, Nat.reduceLeDiff, Nat.reduceAdd, Nat.reduceSub, Nat.reduceMul, Nat.reduceEqDiff, Nat.reduceBEq, Nat.reduceMod, Nat.reduceDiv, Int.reduceToNat, reduceCtorEq, Int.reduceLT, Int.reduceLE, Int.reduceGT, Int.reduceGE, Int.reduceAdd, Int.reduceSub, Int.reduceMul, Int.reduceNeg, Int.reduceEq, Int.reduceNe, Int.reduceBNe, Int.reduceBEq, Int.reduceDiv, u]
      refine finTup ?_
      show resOf _ _ [.cell 2 25, .tmp 3] = _
      simp only [go_sem, ↓reduceIte, Nat.reduceLT, Nat.reduceLeDiff, Nat.reduceAdd, Nat.reduceSub, Nat.reduceMul, Nat.reduceEqDiff, Nat.reduceBEq, Nat.reduceMod, Nat.reduceDiv, Int.reduceToNat, reduceCtorEq, Int.reduceLT, Int.reduceLE, Int.reduceGT, Int.reduceGE, Int.reduceAdd, Int.reduceSub, Int.reduceMul, Int.reduceNeg, Int.reduceEq, Int.reduceNe, Int.reduceBNe, Int.reduceBEq, Int.reduceDiv]
theorem c_ref14_Chain (l : List TxD) (hl : l.length * 200 ≤ reachBytes) (hok : ∀ a ∈ l, a.ok) : Contract Try.prog 29 [txs l] (.bool (chainOk l)) := by
  have hl0 := hl
  unfold reachBytes at hl
  refine contract_of (C := cf 51 [0, 2, 3, 5, 13, 17, 44] (fun _ => [])) (cf_ok _ _ _) (fn := Try.f29) Try.func29 (by kernel_rfl) rfl (by kernel_rfl) (by simp [cf]) (plain1 (txs_plain l)) (by decide) (noCell (by kernel_rfl)) ?_
  simp only [go_sem, ↓reduceIte, Nat.reduceLT, Nat.reduceLeDiff, Nat.reduceAdd, Nat.reduceSub, Nat.reduceMul, Nat.reduceEqDiff, Nat.reduceBEq, Nat.reduceMod, Nat.reduceDiv, Int.reduceToNat, reduceCtorEq, Int.reduceLT, Int.reduceLE, Int.reduceGT, Int.reduceGE, Int.reduceAdd, Int.reduceSub, Int.reduceMul, Int.reduceNeg, Int.reduceEq, Int.reduceNe, Int.reduceBNe, Int.reduceBEq, Int.reduceDiv, txs, List.length_map]
  cases h6 : decide ((l.length : Int) > 6)
  case' true =>
    have hno : chainOk l = false := chainOk_no fun k => by
      have h := of_decide_eq_true h6
      have := k.len
      omega
    rw [hno]
    simp only [go_sem, ↓reduceIte, Nat.reduceLT, Nat.reduceLeDiff, Nat.reduceAdd, Nat.reduceSub, Nat.reduceMul, Nat.reduceEqDiff, Nat.reduceBEq, Nat.reduceMod, Nat.reduceDiv, Int.reduceToNat, reduceCtorEq, Int.reduceLT, Int.reduceLE, Int.reduceGT, Int.reduceGE, Int.reduceAdd, Int.reduceSub, Int.reduceMul, Int.reduceNeg, Int.reduceEq, Int.reduceNe, Int.reduceBNe, Int.reduceBEq, Int.reduceDiv]
    refine finOne ?_ (fun _ e => by cases e)
    show resOf _ _ [.tmp 2] = _
    simp only [go_sem, ↓reduceIte, Nat.reduceLT, Nat.reduceLeDiff, Nat.reduceAdd, Nat.reduceSub, Nat.reduceMul, Nat.reduceEqDiff, Nat.reduceBEq, Nat.reduceMod, Nat.reduceDiv, Int.reduceToNat, reduceCtorEq, Int.reduceLT, Int.reduceLE, Int.reduceGT, Int.reduceGE, Int.reduceAdd, Int.reduceSub, Int.reduceMul, Int.reduceNeg, Int.reduceEq, Int.reduceNe, Int.reduceBNe, Int.reduceBEq, Int.reduceDiv]
  have hl6 : l.length ≤ 6 := by
    have h := of_decide_eq_false h6
    omega
  simp only [go_sem, ↓reduceIte, Nat.reduceLT, Nat.reduceLeDiff, Nat.reduceAdd, Nat.reduceSub, Nat.reduceMul, Nat.reduceEqDiff, Nat.reduceBEq, Nat.reduceMod, Nat.reduceDiv, Int.reduceToNat, reduceCtorEq, Int.reduceLT, Int.reduceLE, Int.reduceGT, Int.reduceGE, Int.reduceAdd, Int.reduceSub, Int.reduceMul, Int.reduceNeg, Int.reduceEq, Int.reduceNe, Int.reduceBNe, Int.reduceBEq, Int.reduceDiv]
  refine ex_call (by exact c_ref7_Txs l hl0 hok) ?_
  cases hv : l.all validTx
  case' false =>
    have hno : chainOk l = false := chainOk_no fun k => by
      have : l.all validTx = true := List.all_eq_true.2 fun t ht => by
        obtain ⟨i, hi⟩ := List.getElem?_of_mem ht
        exact k.valid i t hi
      rw [this] at hv
      cases hv
    rw [hno]
    simp only [go_sem, ↓reduceIte, Nat.reduceLT, Nat.reduceLeDiff, Nat.reduceAdd, Nat.reduceSub, Nat.reduceMul, Nat.reduceEqDiff, Nat.reduceBEq, Nat.reduceMod, Nat.reduceDiv, Int.reduceToNat, reduceCtorEq, Int.reduceLT, Int.reduceLE, Int.reduceGT, Int.reduceGE, Int.reduceAdd, Int.reduceSub, Int.reduceMul, Int.reduceNeg, Int.reduceEq, Int.reduceNe, Int.reduceBNe, Int.reduceBEq, Int.reduceDiv]
    refine finOne ?_ (fun _ e => by cases e)
    show resOf _ _ [.tmp 2] = _
    simp only [go_sem, ↓reduceIte, Nat.reduceLT, Nat.reduceLeDiff, Nat.reduceAdd, Nat.reduceSub, Nat.reduceMul, Nat.reduceEqDiff, Nat.reduceBEq, Nat.reduceMod, Nat.reduceDiv, Int.reduceToNat, reduceCtorEq, Int.reduceLT, Int.reduceLE, Int.reduceGT, Int.reduceGE, Int.reduceAdd, Int.reduceSub, Int.reduceMul, Int.reduceNeg, Int.reduceEq, Int.reduceNe, Int.reduceBNe, Int.reduceBEq, Int.reduceDiv]
  have hval : ∀ (i : Nat) t, l[i]? = some t → validTx t = true := fun i t e => List.all_eq_true.1 hv t (List.mem_of_getElem? e)
  simp only [go_sem, ↓reduceIte, Nat.reduceLT, Nat.reduceLeDiff, Nat.reduceAdd, Nat.reduceSub, Nat.reduceMul, Nat.reduceEqDiff, Nat.reduceBEq, Nat.reduceMod, Nat.reduceDiv, Int.reduceToNat, reduceCtorEq, Int.reduceLT, Int.reduceLE, Int.reduceGT, Int.reduceGE, Int.reduceAdd, Int.reduceSub, Int.reduceMul, Int.reduceNeg, Int.reduceEq, Int.reduceNe, Int.reduceBNe, Int.reduceBEq, Int.reduceDiv, Int.cast_ofNat_Int]
  refine ex_iter [0, 3] (fun i : Nat => ⟨[(0, .sl false 21 (l.map TxD.av)), (3, .int .i64 i)], [], []⟩) (fun i => 1 ≤ i ∧ i ≤ 7 ∧ ∀ (j : Nat) a t, j < i → l[0]? = some a → l[j]? = some t → t.frm = a.frm ∧ t.nonce = a.nonce + j) (fun i => l.length - i) 1 ?_ ?_ ?_
  · simp only [ASt.keep, consIf, keepL, keepV, AV.isBot, List.contains_cons, List.contains_nil, Nat.reduceBEq, Bool.or_false, Bool.false_or, Bool.or_true, Bool.true_or, beq_self_eq_true, Bool.false_eq_true, ↓reduceIte, if_false, if_true]
    rfl
  · refine ⟨Nat.le_refl _, by omega, fun j a t hj e0 e => ?_⟩
    obtain rfl : j = 0 := by omega
    rw [e0] at e; cases e
    exact ⟨rfl, by omega⟩
  · rintro n i ⟨hi, hi7, hlk⟩ next
    simp only [go_sem, ↓reduceIte, Nat.reduceLT, Nat.reduceLeDiff, Nat.reduceAdd, Nat.reduceSub, Nat.reduceMul, Nat.reduceEqDiff, Nat.reduceBEq, Nat.reduceMod, Nat.reduceDiv, Int.reduceToNat, reduceCtorEq, Int.reduceLT, Int.reduceLE, Int.reduceGT, Int.reduceGE, Int.reduceAdd, Int.reduceSub, Int.reduceMul, Int.reduceNeg, Int.reduceEq, Int.reduceNe, Int.reduceBNe, Int.reduceBEq, Int.reduceDiv, List.length_map]
    refine ex_br (fun h => ?_) (fun h => ?_)
    · have hlt : i < l.length := by simpa using h
      obtain ⟨x, ex⟩ : ∃ x, l[i]? = some x := ⟨_, List.getElem?_eq_getElem hlt⟩
      obtain ⟨a, ea⟩ : ∃ x, l[0]? = some x := ⟨_, List.getElem?_eq_getElem (by omega)⟩
      obtain ⟨p, ep⟩ : ∃ p, l[i - 1]? = some p := ⟨_, List.getElem?_eq_getElem (by omega)⟩
      have hpl := hlk (i - 1) a p (by omega) ea ep
      have hpv := (validTx_parts (hval (i - 1) p ep)).2.1
      have w1 : IntKind.i64.wrap ((i : Int) - 1) = ((i - 1 : Nat) : Int) := by rw [wi64 (by omega) (by omega)]; omega
      have w2 : IntKind.i64.wrap (p.nonce + 1) = p.nonce + 1 := wi64 (by omega) (by omega)
      cases hf : (x.frm != a.frm)
      case' true =>
        have hno : chainOk l = false := chainOk_no fun k => by
          have := (k.link i a x ea ex).1
          rw [this] at hf
          simp at hf
        rw [hno]
        simp only [go_sem, ↓reduceIte, Nat.reduceLT, Nat.reduceLeDiff, Nat.reduceAdd, Nat.reduceSub, Nat.reduceMul, Nat.reduceEqDiff, Nat.reduceBEq, Nat.reduceMod, Nat.reduceDiv, Int.reduceToNat, reduceCtorEq, Int.reduceLT, Int.reduceLE, Int.reduceGT, Int.reduceGE, Int.reduceAdd, Int.reduceSub, Int.reduceMul, Int.reduceNeg, Int.reduceEq, Int.reduceNe, Int.reduceBNe, Int.reduceBEq, Int.reduceDiv]
        refine ex_draw [] [] (.quiet 0 (.quiet 1 (.quiet 2 (.quiet 3 (.quiet 4 (.quiet 5 (.quiet 6 (.quiet 7 (.quiet 8 (.quiet 9 (.quiet 10 (.quiet 11 (.quiet 12 (.quiet 13 (.quiet 14 (.quiet 15 (.quiet 16 (.quiet 17 (.quiet 18 (.quiet 19 (.quiet 20 (.quiet 21 (.quiet 22 (.quiet 23 (.quiet 24 (.fin)))))))))))))))))))))))))) (by kernel_rfl) ?_
        simp only [go_sem, ↓reduceIte, Nat.reduceLT, Nat.reduceLeDiff, Nat.reduceAdd, Nat.reduceSub, Nat.reduceMul, Nat.reduceEqDiff, Nat.reduceBEq, Nat.reduceMod, Nat.reduceDiv, Int.reduceToNat, reduceCtorEq, Int.reduceLT, Int.reduceLE, Int.reduceGT, Int.reduceGE, Int.reduceAdd, Int.reduceSub, Int.reduceMul, Int.reduceNeg, Int.reduceEq, Int.reduceNe, Int.reduceBNe, Int.reduceBEq, Int.reduceDiv, hf, w1, w2, Int.toNat_natCast, Int.toNat_zero, List.getElem?_map, List.length_map, ea, ex, ep, TxD.av, TxD.cells]
        repeat with_reducible refine And.intro (by first | omega | (simp only [List.length_cons, List.length_append, List.length_nil, List.length_map, List.length_take, List.length_drop, List.length_set]; omega)) ?_
        try simp only [go_sem, ↓reduceIte, Nat.reduceLT, Nat.reduceLeDiff, Nat.reduceAdd, Nat.reduceSub, Nat.reduceMul, Nat.reduceEqDiff, Nat.reduceBEq, Nat.reduceMod, Nat.reduceDiv, Int.reduceToNat, reduceCtorEq, Int.reduceLT, Int.reduceLE, Int.reduceGT, Int.reduceGE, Int.reduceAdd, Int.reduceSub, Int.reduceMul, Int.reduceNeg, Int.reduceEq, Int.reduceNe, Int.reduceBNe, Int.reduceBEq, Int.reduceDiv]
        refine finOne ?_ (fun _ e => by cases e)
        show resOf _ _ [.tmp 2] = _
        simp only [go_sem, ↓reduceIte, Nat.reduceLT, Nat.reduceLeDiff, Nat.reduceAdd, Nat.reduceSub, Nat.reduceMul, Nat.reduceEqDiff, Nat.reduceBEq, Nat.reduceMod, Nat.reduceDiv, Int.reduceToNat, reduceCtorEq, Int.reduceLT, Int.reduceLE, Int.reduceGT, Int.reduceGE, Int.reduceAdd, Int.reduceSub, Int.reduceMul, Int.reduceNeg, Int.reduceEq, Int.reduceNe, Int.reduceBNe, Int.reduceBEq, Int.reduceDiv]
      cases hn : (x.nonce != p.nonce + 1)
      case' true =>
        have hno : chainOk l = false := chainOk_no fun k => by
          have := (k.link i a x ea ex).2
          have e2 : x.nonce = p.nonce + 1 := by omega
          rw [e2] at hn
          simp at hn
        rw [hno]
        simp only [go_sem, ↓reduceIte, Nat.reduceLT, Nat.reduceLeDiff, Nat.reduceAdd, Nat.reduceSub, Nat.reduceMul, Nat.reduceEqDiff, Nat.reduceBEq, Nat.reduceMod, Nat.reduceDiv, Int.reduceToNat, reduceCtorEq, Int.reduceLT, Int.reduceLE, Int.reduceGT, Int.reduceGE, Int.reduceAdd, Int.reduceSub, Int.reduceMul, Int.reduceNeg, Int.reduceEq, Int.reduceNe, Int.reduceBNe, Int.reduceBEq, Int.reduceDiv]
        refine ex_draw [] [] (.quiet 0 (.quiet 1 (.quiet 2 (.quiet 3 (.quiet 4 (.quiet 5 (.quiet 6 (.quiet 7 (.quiet 8 (.quiet 9 (.quiet 10 (.quiet 11 (.quiet 12 (.quiet 13 (.quiet 14 (.quiet 15 (.quiet 16 (.quiet 17 (.quiet 18 (.quiet 19 (.quiet 20 (.quiet 21 (.quiet 22 (.quiet 23 (.quiet 24 (.fin)))))))))))))))))))))))))) (by kernel_rfl) ?_
        simp only [go_sem, ↓reduceIte, Nat.reduceLT, Nat.reduceLeDiff, Nat.reduceAdd, Nat.reduceSub, Nat.reduceMul, Nat.reduceEqDiff, Nat.reduceBEq, Nat.reduceMod, Nat.reduceDiv, Int.reduceToNat, reduceCtorEq, Int.reduceLT, Int.reduceLE, Int.reduceGT, Int.reduceGE, Int.reduceAdd, Int.reduceSub, Int.reduceMul, Int.reduceNeg, Int.reduceEq, Int.reduceNe, Int.reduceBNe, Int.reduceBEq, Int.reduceDiv, hf, hn, w1, w2, Int.toNat_natCast, Int.toNat_zero, List.getElem?_map, List.length_map, ea, ex, ep, TxD.av, TxD.cells]
        repeat with_reducible refine And.intro (by first | omega | (simp only [List.length_cons, List.length_append, List.length_nil, List.length_map, List.length_take, List.length_drop, List.length_set]; omega)) ?_
        try simp only [go_sem, ↓reduceIte, Nat.reduceLT, Nat.reduceLeDiff, Nat.reduceAdd, Nat.reduceSub, Nat.reduceMul, Nat.reduceEqDiff, Nat.reduceBEq, Nat.reduceMod, Nat.reduceDiv, Int.reduceToNat, reduceCtorEq, Int.reduceLT, Int.reduceLE, Int.reduceGT, Int.reduceGE, Int.reduceAdd, Int.reduceSub, Int.reduceMul, Int.reduceNeg, Int.reduceEq, Int.reduceNe, Int.reduceBNe, Int.reduceBEq, Int.reduceDiv]
        refine finOne ?_ (fun _ e => by cases e)
        show resOf _ _ [.tmp 2] = _
        simp only [go_sem, ↓reduceIte, Nat.reduceLT, Nat.reduceLeDiff, Nat.reduceAdd, Nat.reduceSub, Nat.reduceMul, Nat.reduceEqDiff, Nat.reduceBEq, Nat.reduceMod, Nat.reduceDiv, Int.reduceToNat, reduceCtorEq, Int.reduceLT, Int.reduceLE, Int.reduceGT, Int.reduceGE, Int.reduceAdd, Int.reduceSub, Int.reduceMul, Int.reduceNeg, Int.reduceEq, Int.reduceNe, Int.reduceBNe, Int.reduceBEq, Int.reduceDiv]
      have hf' : x.frm = a.frm := by simpa using hf
      have hn' : x.nonce = p.nonce + 1 := by simpa using hn
      simp only [go_sem, ↓reduceIte, Nat.reduceLT, Nat.reduceLeDiff, Nat.reduceAdd, Nat.reduceSub, Nat.reduceMul, Nat.reduceEqDiff, Nat.reduceBEq, Nat.reduceMod, Nat.reduceDiv, Int.reduceToNat, reduceCtorEq, Int.reduceLT, Int.reduceLE, Int.reduceGT, Int.reduceGE, Int.reduceAdd, Int.reduceSub, Int.reduceMul, Int.reduceNeg, Int.reduceEq, Int.reduceNe, Int.reduceBNe, Int.reduceBEq, Int.reduceDiv]
      refine ex_draw [] [] (.quiet 0 (.quiet 1 (.quiet 2 (.quiet 3 (.quiet 4 (.quiet 5 (.quiet 6 (.quiet 7 (.quiet 8 (.quiet 9 (.quiet 10 (.quiet 11 (.quiet 12 (.quiet 13 (.quiet 14 (.quiet 15 (.quiet 16 (.quiet 17 (.quiet 18 (.quiet 19 (.quiet 20 (.quiet 21 (.quiet 22 (.quiet 23 (.quiet 24 (.fin)))))))))))))))))))))))))) (by kernel_rfl) ?_
      simp only [go_sem, ↓reduceIte, Nat.reduceLT, Nat.reduceLeDiff, Nat.reduceAdd, Nat.reduceSub, Nat.reduceMul, Nat.reduceEqDiff, Nat.reduceBEq, Nat.reduceMod, Nat.reduceDiv, Int.reduceToNat, reduceCtorEq, Int.reduceLT, Int.reduceLE, Int.reduceGT, Int.reduceGE, Int.reduceAdd, Int.reduceSub, Int.reduceMul, Int.reduceNeg, Int.reduceEq, Int.reduceNe, Int.reduceBNe, Int.reduceBEq, Int.reduceDiv, hf, hn, w1, w2, Int.toNat_natCast, Int.toNat_zero, List.getElem?_map, List.length_map, ea, ex, ep, TxD.av, TxD.cells]
      repeat with_reducible refine And.intro (by first | omega | (simp only [List.length_cons, List.length_append, List.length_nil, List.length_map, List.length_take, List.length_drop, List.length_set]; omega)) ?_
      try simp only [go_sem, ↓reduceIte, Nat.reduceLT, Nat.reduceLeDiff, Nat.reduceAdd, Nat.reduceSub, Nat.reduceMul, Nat.reduceEqDiff, Nat.reduceBEq, Nat.reduceMod, Nat.reduceDiv, Int.reduceToNat, reduceCtorEq, Int.reduceLT, Int.reduceLE, Int.reduceGT, Int.reduceGE, Int.reduceAdd, Int.reduceSub, Int.reduceMul, Int.reduceNeg, Int.reduceEq, Int.reduceNe, Int.reduceBNe, Int.reduceBEq, Int.reduceDiv]
      refine next (i + 1) _ ⟨by omega, by omega, fun j a' t hj e0 e => ?_⟩ (by omega) ?_
      · rcases Nat.lt_or_ge j i with h1 | h1
        · exact hlk j a' t h1 e0 e
        · obtain rfl : j = i := by omega
          rw [ex] at e; cases e
          rw [ea] at e0; cases e0
          exact ⟨hf', by omega⟩
      · rw [← wi64_nat i (by omega)]
        simp only [ASt.keep, consIf, keepL, keepV, AV.isBot, List.contains_cons, List.contains_nil, Nat.reduceBEq, Bool.or_false, Bool.false_or, Bool.or_true, Bool.true_or, beq_self_eq_true, Bool.false_eq_true, ↓reduceIte, if_false, if_true]
    · have hge : l.length ≤ i := by simp at h; omega
      have hc : chainOk l = decide (sumCost l < U) := by
        rw [Bool.eq_iff_iff, chainOk_iff, decide_eq_true_eq]
        exact ⟨fun k => k.sum, fun k => ⟨hl6, hval, fun j a t e0 e => hlk j a t (Nat.lt_of_lt_of_le (List.getElem?_eq_some_iff.1 e).1 hge) e0 e, k⟩⟩
      rw [hc]
      simp only [go_sem, ↓reduceIte, Nat.reduceLT, Nat.reduceLeDiff, Nat.reduceAdd, Nat.reduceSub, Nat.reduceMul, Nat.reduceEqDiff, Nat.reduceBEq, Nat.reduceMod, Nat.reduceDiv, Int.reduceToNat, reduceCtorEq, Int.reduceLT, Int.reduceLE, Int.reduceGT, Int.reduceGE, Int.reduceAdd, Int.reduceSub, Int.reduceMul, Int.reduceNeg, Int.reduceEq, Int.reduceNe, Int.reduceBNe, Int.reduceBEq, Int.reduceDiv]
      refine ex_call (by exact c_ref14_Spent l hl0 hok hv) ?_
      simp only [go_sem, ↓reduceIte, Nat.reduceLT, Nat.reduceLeDiff, Nat.reduceAdd, Nat.reduceSub, Nat.reduceMul, Nat.reduceEqDiff, Nat.reduceBEq, Nat.reduceMod, Nat.reduceDiv, Int.reduceToNat, reduceCtorEq, Int.reduceLT, Int.reduceLE, Int.reduceGT, Int.reduceGE, Int.reduceAdd, Int.reduceSub, Int.reduceMul, Int.reduceNeg, Int.reduceEq, Int.reduceNe, Int.reduceBNe, Int.reduceBEq, Int.reduceDiv, u]
      refine finOne ?_ (fun _ e => by cases e)
      show resOf _ _ [.tmp 2] = _
      simp only [go_sem, ↓reduceIte, Nat.reduceLT, Nat.reduceLeDiff, Nat.reduceAdd, Nat.reduceSub, Nat.reduceMul, Nat.reduceEqDiff, Nat.reduceBEq, Nat.reduceMod, Nat.reduceDiv, Int.reduceToNat, reduceCtorEq, Int.reduceLT, Int.reduceLE, Int.reduceGT, Int.reduceGE, Int.reduceAdd, Int.reduceSub, Int.reduceMul, Int.reduceNeg, Int.reduceEq, Int.reduceNe, Int.reduceBNe, Int.reduceBEq, Int.reduceDiv]

/-! Copies. -/
theorem c_tx_Copies (l : List TxD) (hl : l.length * 200 ≤ reachBytes) (hok : ∀ a ∈ l, a.ok) : Contract Try.prog 84 [txs l] (.own false 21 (l.map TxD.av)) := by
  unfold reachBytes at hl
  refine contract_of (C := cf 19 [0, 2, 3, 5, 6, 7, 8, 9] (fun _ => [])) (cf_ok _ _ _) (fn := Try.f84) Try.func84 (by kernel_rfl) rfl (by kernel_rfl) (by simp [cf]) (plain1 (txs_plain l)) (by decide) (noCell (by kernel_rfl)) ?_
  simp only [go_sem, ↓reduceIte, Nat.reduceLT, Nat.reduceLeDiff, Nat.reduceAdd, Nat.reduceSub, Nat.reduceMul, Nat.reduceEqDiff, Nat.reduceBEq, Nat.reduceMod, Nat.reduceDiv, Int.reduceToNat, reduceCtorEq, Int.reduceLT, Int.reduceLE, Int.reduceGT, Int.reduceGE, Int.reduceAdd, Int.reduceSub, Int.reduceMul, Int.reduceNeg, Int.reduceEq, Int.reduceNe, Int.reduceBNe, Int.reduceBEq, Int.reduceDiv, txs, List.length_map]
  refine ex_iter [0, 3, 6, 7, 8] (fun i : Nat => ⟨[(0, .sl false 21 (l.map TxD.av)), (3, .own false 21 ((l.take i).map TxD.av)), (6, .sl false 21 (l.map TxD.av)), (7, .int .i64 l.length), (8, .int .i64 i)], [], []⟩) (fun i => i ≤ l.length) (fun i => l.length - i) 0 ?_ ?_ ?_
  · simp only [ASt.keep, consIf, keepL, keepV, AV.isBot, List.contains_cons, List.contains_nil, Nat.reduceBEq, Bool.or_false, Bool.false_or, Bool.or_true, Bool.true_or, beq_self_eq_true, Bool.false_eq_true, ↓reduceIte, if_false, if_true]
    rfl
  · exact Nat.zero_le _
  · intro n i hi next
    simp only [go_sem, ↓reduceIte, Nat.reduceLT, Nat.reduceLeDiff, Nat.reduceAdd, Nat.reduceSub, Nat.reduceMul, Nat.reduceEqDiff, Nat.reduceBEq, Nat.reduceMod, Nat.reduceDiv, Int.reduceToNat, reduceCtorEq, Int.reduceLT, Int.reduceLE, Int.reduceGT, Int.reduceGE, Int.reduceAdd, Int.reduceSub, Int.reduceMul, Int.reduceNeg, Int.reduceEq, Int.reduceNe, Int.reduceBNe, Int.reduceBEq, Int.reduceDiv, List.length_map]
    refine ex_br (fun h => ?_) (fun h => ?_)
    · have hlt : i < l.length := by simpa using h
      obtain ⟨x, ex⟩ : ∃ x, l[i]? = some x := ⟨_, List.getElem?_eq_getElem hlt⟩
      have hs : (l.take i).map TxD.av ++ [.agg x.cells] = (l.take (i + 1)).map TxD.av := take_snoc TxD.av ex
      simp only [go_sem, ↓reduceIte, Nat.reduceLT, Nat.reduceLeDiff, Nat.reduceAdd, Nat.reduceSub, Nat.reduceMul, Nat.reduceEqDiff, Nat.reduceBEq, Nat.reduceMod, Nat.reduceDiv, Int.reduceToNat, reduceCtorEq, Int.reduceLT, Int.reduceLE, Int.reduceGT, Int.reduceGE, Int.reduceAdd, Int.reduceSub, Int.reduceMul, Int.reduceNeg, Int.reduceEq, Int.reduceNe, Int.reduceBNe, Int.reduceBEq, Int.reduceDiv, List.length_map, List.getElem?_map, ex, Int.toNat_natCast, TxD.av, TxD.cells, ints, strs]
      repeat with_reducible refine And.intro (by first | omega | (simp only [List.length_cons, List.length_append, List.length_nil, List.length_map, List.length_take, List.length_drop, List.length_set]; omega)) ?_
      refine ex_call (by exact c_tx_Copy x (hok x (List.mem_of_getElem? ex))) ?_
      simp only [go_sem, ↓reduceIte, Nat.reduceLT, Nat.reduceLeDiff, Nat.reduceAdd, Nat.reduceSub, Nat.reduceMul, Nat.reduceEqDiff, Nat.reduceBEq, Nat.reduceMod, Nat.reduceDiv, Int.reduceToNat, reduceCtorEq, Int.reduceLT, Int.reduceLE, Int.reduceGT, Int.reduceGE, Int.reduceAdd, Int.reduceSub, Int.reduceMul, Int.reduceNeg, Int.reduceEq, Int.reduceNe, Int.reduceBNe, Int.reduceBEq, Int.reduceDiv, List.length_map, TxD.av, cells_len]
      repeat with_reducible refine And.intro (by first | omega | (simp only [List.length_cons, List.length_append, List.length_nil, List.length_map, List.length_take, List.length_drop, List.length_set]; omega)) ?_
      refine next (i + 1) _ (by omega) (by omega) ?_
      rw [← wi64_nat i (by omega), ← hs]
      simp only [ASt.keep, consIf, keepL, keepV, AV.isBot, List.contains_cons, List.contains_nil, Nat.reduceBEq, Bool.or_false, Bool.false_or, Bool.or_true, Bool.true_or, beq_self_eq_true, Bool.false_eq_true, ↓reduceIte, if_false, if_true]
    · have hge : i = l.length := by simp at h; omega
      subst hge
      simp only [go_sem, ↓reduceIte, Nat.reduceLT, Nat.reduceLeDiff, Nat.reduceAdd, Nat.reduceSub, Nat.reduceMul, Nat.reduceEqDiff, Nat.reduceBEq, Nat.reduceMod, Nat.reduceDiv, Int.reduceToNat, reduceCtorEq, Int.reduceLT, Int.reduceLE, Int.reduceGT, Int.reduceGE, Int.reduceAdd, Int.reduceSub, Int.reduceMul, Int.reduceNeg, Int.reduceEq, Int.reduceNe, Int.reduceBNe, Int.reduceBEq, Int.reduceDiv, List.take_length]
      refine finOne ?_ (fun _ e => by cases e)
      show resOf _ _ [.tmp 2] = _
      simp only [go_sem, ↓reduceIte, Nat.reduceLT, Nat.reduceLeDiff, Nat.reduceAdd, Nat.reduceSub, Nat.reduceMul, Nat.reduceEqDiff, Nat.reduceBEq, Nat.reduceMod, Nat.reduceDiv, Int.reduceToNat, reduceCtorEq, Int.reduceLT, Int.reduceLE, Int.reduceGT, Int.reduceGE, Int.reduceAdd, Int.reduceSub, Int.reduceMul, Int.reduceNeg, Int.reduceEq, Int.reduceNe, Int.reduceBNe, Int.reduceBEq, Int.reduceDiv]
end Go.Proofs.Ytpepfhbfooeoeaa.VA
end
