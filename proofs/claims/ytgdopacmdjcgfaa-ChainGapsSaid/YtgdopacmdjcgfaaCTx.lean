/- Transactions as data; what they cost. -/
import Derived.Test.YtgdopacmdjcgfaaCMul3
import Derived.Test.YtgdopacmdjcgfaaCBlob
namespace Go.Proofs.Ytgdopacmdjcgfaa.VA
set_option maxRecDepth 10000
set_option linter.unusedSimpArgs false
set_option linter.unusedVariables false
set_option maxHeartbeats 8000000

structure TxD where
  frm : Int
  nonce : Int
  tip : Nat
  cap : Nat
  bcap : Nat
  value : Nat
  gas : Int
  hashes : List Int
  blobs : List (List UInt8)
def TxD.cells (t : TxD) : List AV := [.int .i64 t.frm, .int .i64 t.nonce, .int .u64 (lim t.tip 0), .int .u64 (lim t.tip 1), .int .u64 (lim t.tip 2), .int .u64 (lim t.tip 3),
  .int .u64 (lim t.cap 0), .int .u64 (lim t.cap 1), .int .u64 (lim t.cap 2), .int .u64 (lim t.cap 3), .int .u64 (lim t.bcap 0), .int .u64 (lim t.bcap 1), .int .u64 (lim t.bcap 2), .int .u64 (lim t.bcap 3),
  .int .u64 (lim t.value 0), .int .u64 (lim t.value 1), .int .u64 (lim t.value 2), .int .u64 (lim t.value 3), .int .i64 t.gas, ints .u64 t.hashes, strs t.blobs]
def TxD.av (t : TxD) : AV := .agg t.cells
theorem TxD.plain (t : TxD) : Plain t.av := .agg _ fun c hc => by
  simp only [TxD.cells, List.mem_cons, List.not_mem_nil, or_false] at hc
  rcases hc with rfl | rfl | rfl | rfl | rfl | rfl | rfl | rfl | rfl | rfl | rfl | rfl | rfl | rfl | rfl | rfl | rfl | rfl | rfl | rfl | rfl <;> first | exact .int _ _ | exact ints_plain _ _ | exact strs_plain _
/-- What data of a transaction may be at all. -/
structure TxD.ok (t : TxD) : Prop where
  frm : -9223372036854775808 ≤ t.frm ∧ t.frm ≤ 9223372036854775807
  nonce : -9223372036854775808 ≤ t.nonce ∧ t.nonce ≤ 9223372036854775807
  gas : -9223372036854775808 ≤ t.gas ∧ t.gas ≤ 9223372036854775807
  tip : t.tip < U
  cap : t.cap < U
  bcap : t.bcap < U
  value : t.value < U
  hashes : t.hashes.length * 8 ≤ reachBytes
  blobs : t.blobs.length * 16 ≤ reachBytes
  blob : ∀ b ∈ t.blobs, b.length ≤ reachBytes

def costOf (t : TxD) : Nat := t.cap * t.gas.toNat + t.bcap * (131072 * t.blobs.length) + t.value
theorem u_small (g : Nat) (hg : g < 18446744073709551616) : u g = .agg [.int .u64 (g : Int), .int .u64 0, .int .u64 0, .int .u64 0] :=
  u_eq (a := g) (b := 0) (c := 0) (d := 0) hg (by decide) (by decide) (by decide) (by omega)
theorem c_MulS (n g : Nat) (hn : n < U) (hg : g < 18446744073709551616) : Contract Try.prog 103 [.agg [.int .u64 (lim n 0), .int .u64 (lim n 1), .int .u64 (lim n 2), .int .u64 (lim n 3)], .agg [.int .u64 (g : Int), .int .u64 0, .int .u64 0, .int .u64 0]] (.tup [u (if n * g < U then n * g else 0), .int .i64 (if n * g < U then 0 else 8)]) := by
  rw [← u_small g hg]
  exact c_u256_Mul n g hn (by unfold U; omega)

theorem eq_of_bne {x : Int} (h : (x != 0) = false) : x = 0 := by simpa using h
theorem res_cases {f : FuncId} {args : List AV} (A : Nat) (h : Contract Try.prog f args (.tup [u (if A < U then A else 0), .int .i64 (if A < U then 0 else 8)])) :
    ∃ (x : Nat) (e : Int), x < U ∧ (e = 0 ∧ x = A ∨ e = 8 ∧ U ≤ A) ∧ Contract Try.prog f args (.tup [u x, .int .i64 e]) := by
  refine ⟨_, _, ?_, ?_, h⟩
  · split
    · assumption
    · decide
  · by_cases hA : A < U
    · rw [if_pos hA, if_pos hA]; exact .inl ⟨rfl, rfl⟩
    · rw [if_neg hA, if_neg hA]; exact .inr ⟨rfl, by omega⟩
theorem c_tx_cost (t : TxD) (h : t.ok) (hg : 0 ≤ t.gas ∧ t.gas ≤ 1073741824) (hb : 1 ≤ t.blobs.length ∧ t.blobs.length ≤ 4) :
    Contract Try.prog 85 [t.av] (.tup [u (if costOf t < U then costOf t else 0), .bool (decide (costOf t < U))]) := by
  refine contract_of (C := cf 69 [1, 2, 3, 4, 5, 6, 7, 8, 9, 10, 11, 13, 22, 60, 61, 62, 65] (fun _ => [])) (cf_ok _ _ _) (fn := Try.f85) Try.func85 (by kernel_rfl) rfl (by kernel_rfl) (by simp [cf]) (plain1 t.plain) (by decide) (cellsOk (by kernel_rfl)) ?_
  have g1 : gasOf (t.blobs.length : Int) = ((131072 * t.blobs.length : Nat) : Int) := by unfold gasOf; rw [if_neg (by omega)]; omega
  have g2 : gasErr (t.blobs.length : Int) = 0 := by unfold gasErr; rw [if_neg (by omega)]
  have w1 : IntKind.u64.wrap t.gas = ((t.gas.toNat : Nat) : Int) := by rw [wu64 (by omega) (by omega)]; omega
  have w2 : IntKind.u64.wrap ((131072 * t.blobs.length : Nat) : Int) = ((131072 * t.blobs.length : Nat) : Int) := wu64 (by omega) (by omega)
  have c1 := c_MulS t.cap t.gas.toNat h.cap (by omega)
  have c2 := c_MulS t.bcap (131072 * t.blobs.length) h.bcap (by omega)
  obtain ⟨A, hA⟩ : ∃ A, A = t.cap * t.gas.toNat := ⟨_, rfl⟩
  obtain ⟨B, hB⟩ : ∃ B, B = t.bcap * (131072 * t.blobs.length) := ⟨_, rfl⟩
  rw [← hA] at c1
  rw [← hB] at c2
  have hcost : costOf t = A + B + t.value := by rw [hA, hB]; rfl
  rw [hcost]
  obtain ⟨x, e1, hx, hx2, c1'⟩ : ∃ (x : Nat) (e1 : Int), x < U ∧ (e1 = 0 ∧ x = A ∨ e1 = 8 ∧ U ≤ A) ∧ Contract Try.prog 103 [.agg [.int .u64 (lim t.cap 0), .int .u64 (lim t.cap 1), .int .u64 (lim t.cap 2), .int .u64 (lim t.cap 3)], .agg [.int .u64 (t.gas.toNat : Int), .int .u64 0, .int .u64 0, .int .u64 0]] (.tup [u x, .int .i64 e1]) := res_cases A c1
  obtain ⟨y, e2, hy, hy2, c2'⟩ : ∃ (x : Nat) (e1 : Int), x < U ∧ (e1 = 0 ∧ x = B ∨ e1 = 8 ∧ U ≤ B) ∧ Contract Try.prog 103 [.agg [.int .u64 (lim t.bcap 0), .int .u64 (lim t.bcap 1), .int .u64 (lim t.bcap 2), .int .u64 (lim t.bcap 3)], .agg [.int .u64 ((131072 * t.blobs.length : Nat) : Int), .int .u64 0, .int .u64 0, .int .u64 0]] (.tup [u x, .int .i64 e1]) := res_cases B c2
  obtain ⟨z, e3, hz, hz2, c3⟩ : ∃ (z : Nat) (e : Int), z < U ∧ (e = 0 ∧ z = x + y ∨ e = 8 ∧ U ≤ x + y) ∧ Contract Try.prog 83 [u x, u y] (.tup [u z, .int .i64 e]) := res_cases (x + y) (c_u256_Add x y hx hy)
  obtain ⟨v, e4, hv, hv2, c4⟩ : ∃ (v : Nat) (e : Int), v < U ∧ (e = 0 ∧ v = z + t.value ∨ e = 8 ∧ U ≤ z + t.value) ∧ Contract Try.prog 83 [u z, u t.value] (.tup [u v, .int .i64 e]) := res_cases (z + t.value) (c_u256_Add z t.value hz h.value)
  have hz4 : u 0 = _ := u_small 0 (by decide)
  have fin : (e1 = 0 ∧ e2 = 0 ∧ e3 = 0 ∧ e4 = 0 → A + B + t.value < U ∧ v = A + B + t.value) ∧ (e1 ≠ 0 ∨ e2 ≠ 0 ∨ e3 ≠ 0 ∨ e4 ≠ 0 → ¬ A + B + t.value < U) := by
    clear c1 c2 c1' c2' c3 c4 hA hB hcost hz4
    constructor
    · rintro ⟨q1, q2, q3, q4⟩; omega
    · intro q; omega
  clear c1 c2 hA hB hx2 hy2 hz2 hv2 hcost
  generalize A + B + t.value = T at fin
  simp only [go_sem, ↓reduceIte, Nat.reduceLT, Nat.reduceLeDiff, Nat.reduceAdd, Nat.reduceSub, Nat.reduceMul, Nat.reduceEqDiff, Nat.reduceBEq, Nat.reduceMod, Nat.reduceDiv, Int.reduceToNat, reduceCtorEq, Int.reduceLT, Int.reduceLE, Int.reduceGT, Int.reduceGE, Int.reduceAdd, Int.reduceSub, Int.reduceMul, Int.reduceNeg, Int.reduceEq, Int.reduceNe, Int.reduceBNe, Int.reduceBEq, Int.reduceDiv, TxD.av, TxD.cells, ints, strs, List.length_map]
  refine ex_call (c_blob_Gas _) ?_
  simp only [go_sem, ↓reduceIte, Nat.reduceLT, Nat.reduceLeDiff, Nat.reduceAdd, Nat.reduceSub, Nat.reduceMul, Nat.reduceEqDiff, Nat.reduceBEq, Nat.reduceMod, Nat.reduceDiv, Int.reduceToNat, reduceCtorEq, Int.reduceLT, Int.reduceLE, Int.reduceGT, Int.reduceGE, Int.reduceAdd, Int.reduceSub, Int.reduceMul, Int.reduceNeg, Int.reduceEq, Int.reduceNe, Int.reduceBNe, Int.reduceBEq, Int.reduceDiv, g1, g2, w1, w2]
  refine ex_call c1' ?_
  simp only [go_sem, ↓reduceIte, Nat.reduceLT, Nat.reduceLeDiff, Nat.reduceAdd, Nat.reduceSub, Nat.reduceMul, Nat.reduceEqDiff, Nat.reduceBEq, Nat.reduceMod, Nat.reduceDiv, Int.reduceToNat, reduceCtorEq, Int.reduceLT, Int.reduceLE, Int.reduceGT, Int.reduceGE, Int.reduceAdd, Int.reduceSub, Int.reduceMul, Int.reduceNeg, Int.reduceEq, Int.reduceNe, Int.reduceBNe, Int.reduceBEq, Int.reduceDiv, u, w1, w2]
  refine ex_call c2' ?_
  simp only [go_sem, ↓reduceIte, Nat.reduceLT, Nat.reduceLeDiff, Nat.reduceAdd, Nat.reduceSub, Nat.reduceMul, Nat.reduceEqDiff, Nat.reduceBEq, Nat.reduceMod, Nat.reduceDiv, Int.reduceToNat, reduceCtorEq, Int.reduceLT, Int.reduceLE, Int.reduceGT, Int.reduceGE, Int.reduceAdd, Int.reduceSub, Int.reduceMul, Int.reduceNeg, Int.reduceEq, Int.reduceNe, Int.reduceBNe, Int.reduceBEq, Int.reduceDiv, u, w1, w2]
  refine ex_call (by exact c3) ?_
  simp only [go_sem, ↓reduceIte, Nat.reduceLT, Nat.reduceLeDiff, Nat.reduceAdd, Nat.reduceSub, Nat.reduceMul, Nat.reduceEqDiff, Nat.reduceBEq, Nat.reduceMod, Nat.reduceDiv, Int.reduceToNat, reduceCtorEq, Int.reduceLT, Int.reduceLE, Int.reduceGT, Int.reduceGE, Int.reduceAdd, Int.reduceSub, Int.reduceMul, Int.reduceNeg, Int.reduceEq, Int.reduceNe, Int.reduceBNe, Int.reduceBEq, Int.reduceDiv, u]
  refine ex_call (by exact c4) ?_
  simp only [go_sem, ↓reduceIte, Nat.reduceLT, Nat.reduceLeDiff, Nat.reduceAdd, Nat.reduceSub, Nat.reduceMul, Nat.reduceEqDiff, Nat.reduceBEq, Nat.reduceMod, Nat.reduceDiv, Int.reduceToNat, reduceCtorEq, Int.reduceLT, Int.reduceLE, Int.reduceGT, Int.reduceGE, Int.reduceAdd, Int.reduceSub, Int.reduceMul, Int.reduceNeg, Int.reduceEq, Int.reduceNe, Int.reduceBNe, Int.reduceBEq, Int.reduceDiv, u]
  refine ex_loop [2, 60, 61] 5 ?_
  iterate 4
    simp only [go_sem, ↓reduceIte, Nat.reduceLT, Nat.reduceLeDiff, Nat.reduceAdd, Nat.reduceSub, Nat.reduceMul, Nat.reduceEqDiff, Nat.reduceBEq, Nat.reduceMod, Nat.reduceDiv, Int.reduceToNat, reduceCtorEq, Int.reduceLT, Int.reduceLE, Int.reduceGT, Int.reduceGE, Int.reduceAdd, Int.reduceSub, Int.reduceMul, Int.reduceNeg, Int.reduceEq, Int.reduceNe, Int.reduceBNe, Int.reduceBEq, Int.reduceDiv, ex_round, Int.cast_ofNat_Int, wi64]
    refine ex_br (fun h => ?_) (fun h => ?_)
    · have hn : ¬ T < U := fin.2 (by simp only [bne_iff_ne] at h; simp only [h, ne_eq, not_false_eq_true, true_or, or_true])
      rw [if_neg hn, decide_eq_false hn]
      simp only [go_sem, ↓reduceIte, Nat.reduceLT, Nat.reduceLeDiff, Nat.reduceAdd, Nat.reduceSub, Nat.reduceMul, Nat.reduceEqDiff, Nat.reduceBEq, Nat.reduceMod, Nat.reduceDiv, Int.reduceToNat, reduceCtorEq, Int.reduceLT, Int.reduceLE, Int.reduceGT, Int.reduceGE, Int.reduceAdd, Int.reduceSub, Int.reduceMul, Int.reduceNeg, Int.reduceEq, Int.reduceNe, Int.reduceBNe, Int.reduceBEq, Int.reduceDiv]
      refine finTup ?_
      show resOf _ _ [.cell 2 29, .tmp 3] = _
      simp only [go_sem, ↓reduceIte, Nat.reduceLT, Nat.reduceLeDiff, Nat.reduceAdd, Nat.reduceSub, Nat.reduceMul, Nat.reduceEqDiff, Nat.reduceBEq, Nat.reduceMod, Nat.reduceDiv, Int.reduceToNat, reduceCtorEq, Int.reduceLT, Int.reduceLE, Int.reduceGT, Int.reduceGE, Int.reduceAdd, Int.reduceSub, Int.reduceMul, Int.reduceNeg, Int.reduceEq, Int.reduceNe, Int.reduceBNe, Int.reduceBEq, Int.reduceDiv]
      try rfl
    have h := eq_of_bne h
  obtain ⟨f1, f2⟩ := fin.1 (by refine ⟨?_, ?_, ?_, ?_⟩ <;> assumption)
  rw [if_pos f1, decide_eq_true f1, ← f2]
  simp only [go_sem, ↓reduceIte, Nat.reduceLT, Nat.reduceLeDiff, Nat.reduceAdd, Nat.reduceSub, Nat.reduceMul, Nat.reduceEqDiff, Nat.reduceBEq, Nat.reduceMod, Nat.reduceDiv, Int.reduceToNat, reduceCtorEq, Int.reduceLT, Int.reduceLE, Int.reduceGT, Int.reduceGE, Int.reduceAdd, Int.reduceSub, Int.reduceMul, Int.reduceNeg, Int.reduceEq, Int.reduceNe, Int.reduceBNe, Int.reduceBEq, Int.reduceDiv, ex_round, Int.cast_ofNat_Int, wi64]
  refine finTup ?_
  show resOf _ _ [.cell 2 29, .tmp 3] = _
  simp only [go_sem, ↓reduceIte, Nat.reduceLT, Nat.reduceLeDiff, Nat.reduceAdd, Nat.reduceSub, Nat.reduceMul, Nat.reduceEqDiff, Nat.reduceBEq, Nat.reduceMod, Nat.reduceDiv, Int.reduceToNat, reduceCtorEq, Int.reduceLT, Int.reduceLE, Int.reduceGT, Int.reduceGE, Int.reduceAdd, Int.reduceSub, Int.reduceMul, Int.reduceNeg, Int.reduceEq, Int.reduceNe, Int.reduceBNe, Int.reduceBEq, Int.reduceDiv]
  try rfl

/-! The page's own answer. -/
theorem res_casesB {f : FuncId} {args : List AV} (A : Nat) (h : Contract Try.prog f args (.tup [u (if A < U then A else 0), .bool (decide (A < U))])) :
    ∃ (x : Nat) (e : Bool), x < U ∧ (e = true ∧ x = A ∧ A < U ∨ e = false ∧ U ≤ A) ∧ (e = false → x = 0) ∧ Contract Try.prog f args (.tup [u x, .bool e]) := by
  refine ⟨_, _, ?_, ?_, fun e => if_neg (of_decide_eq_false e), h⟩
  · split
    · assumption
    · decide
  · by_cases hA : A < U
    · rw [if_pos hA, decide_eq_true hA]; exact .inl ⟨rfl, rfl, hA⟩
    · rw [if_neg hA, decide_eq_false hA]; exact .inr ⟨rfl, by omega⟩
theorem c_ref1_Of (g : Nat) (hg : g ≤ 9223372036854775807) : Contract Try.prog 72 [.int .i64 g] (.agg [.int .u64 (g : Int), .int .u64 0, .int .u64 0, .int .u64 0]) := by
  have w : IntKind.u64.wrap (g : Int) = g := wu64 (by omega) (by omega)
  refine contract_of (C := cf 6 [0, 2] (fun _ => [])) (cf_ok _ _ _) (fn := Try.f72) Try.func72 (by kernel_rfl) rfl (by kernel_rfl) (by simp [cf]) (plain1 (.int _ _)) (by decide) (cellsOk (by kernel_rfl)) ?_
  simp only [go_sem, ↓reduceIte, Nat.reduceLT, Nat.reduceLeDiff, Nat.reduceAdd, Nat.reduceSub, Nat.reduceMul, Nat.reduceEqDiff, Nat.reduceBEq, Nat.reduceMod, Nat.reduceDiv, Int.reduceToNat, reduceCtorEq, Int.reduceLT, Int.reduceLE, Int.reduceGT, Int.reduceGE, Int.reduceAdd, Int.reduceSub, Int.reduceMul, Int.reduceNeg, Int.reduceEq, Int.reduceNe, Int.reduceBNe, Int.reduceBEq, Int.reduceDiv, w]
  refine finOne ?_ (fun _ e => by cases e)
  show resOf _ _ [.cell 2 29] = _
  simp only [go_sem, ↓reduceIte, Nat.reduceLT, Nat.reduceLeDiff, Nat.reduceAdd, Nat.reduceSub, Nat.reduceMul, Nat.reduceEqDiff, Nat.reduceBEq, Nat.reduceMod, Nat.reduceDiv, Int.reduceToNat, reduceCtorEq, Int.reduceLT, Int.reduceLE, Int.reduceGT, Int.reduceGE, Int.reduceAdd, Int.reduceSub, Int.reduceMul, Int.reduceNeg, Int.reduceEq, Int.reduceNe, Int.reduceBNe, Int.reduceBEq, Int.reduceDiv]
theorem c_rMulS (n g : Nat) (hn : n < U) (hg : g < 18446744073709551616) : Contract Try.prog 71 [.agg [.int .u64 (lim n 0), .int .u64 (lim n 1), .int .u64 (lim n 2), .int .u64 (lim n 3)], .agg [.int .u64 (g : Int), .int .u64 0, .int .u64 0, .int .u64 0]] (.tup [u (if n * g < U then n * g else 0), .bool (decide (n * g < U))]) := by
  rw [← u_small g hg]
  exact c_ref1_Mul n g hn (by unfold U; omega)
theorem c_ref7_Cost (t : TxD) (h : t.ok) (hg : 0 ≤ t.gas ∧ t.gas ≤ 1073741824) (hb : t.blobs.length ≤ 4) :
    Contract Try.prog 38 [t.av] (.tup [u (if costOf t < U then costOf t else 0), .bool (decide (costOf t < U))]) := by
  refine contract_of (C := cf 52 [1, 2, 3, 4, 5, 6, 7, 8, 9, 35, 44] (fun _ => [])) (cf_ok _ _ _) (fn := Try.f38) Try.func38 (by kernel_rfl) rfl (by kernel_rfl) (by simp [cf]) (plain1 t.plain) (by decide) (cellsOk (by kernel_rfl)) ?_
  have w1 : AV.int IntKind.i64 t.gas = .int .i64 ((t.gas.toNat : Nat) : Int) := by congr 1; omega
  have w2 : IntKind.i64.wrap (131072 * (t.blobs.length : Int)) = ((131072 * t.blobs.length : Nat) : Int) := by rw [wi64 (by omega) (by omega)]; omega
  have c1 := c_rMulS t.cap t.gas.toNat h.cap (by omega)
  have c2 := c_rMulS t.bcap (131072 * t.blobs.length) h.bcap (by omega)
  have o1 := c_ref1_Of t.gas.toNat (by omega)
  have o2 := c_ref1_Of (131072 * t.blobs.length) (by omega)
  obtain ⟨A, hA⟩ : ∃ A, A = t.cap * t.gas.toNat := ⟨_, rfl⟩
  obtain ⟨B, hB⟩ : ∃ B, B = t.bcap * (131072 * t.blobs.length) := ⟨_, rfl⟩
  rw [← hA] at c1
  rw [← hB] at c2
  have hcost : costOf t = A + B + t.value := by rw [hA, hB]; rfl
  rw [hcost]
  obtain ⟨x, e1, hx, hx2, _, c1'⟩ := res_casesB A c1
  obtain ⟨y, e2, hy, hy2, _, c2'⟩ := res_casesB B c2
  obtain ⟨z, e3, hz, hz2, _, c3⟩ := res_casesB (x + y) (c_ref1_Add x y hx hy)
  obtain ⟨v, e4, hv, hv2, hv0, c4⟩ := res_casesB (z + t.value) (c_ref1_Add z t.value hz h.value)
  have hz4 : u 0 = _ := u_small 0 (by decide)
  have fin : (e1 = true → e2 = true → e3 = true → (A + B + t.value < U ∧ e4 = true ∧ v = A + B + t.value) ∨ (¬ A + B + t.value < U ∧ e4 = false ∧ v = 0)) ∧ (e1 = false ∨ e2 = false ∨ e3 = false → ¬ A + B + t.value < U) := by
    clear c1 c2 c1' c2' c3 c4 hA hB hcost hz4 o1 o2 w1 w2
    constructor
    · rintro rfl rfl rfl
      obtain ⟨_, rfl, q1⟩ | ⟨q, _⟩ := hx2
      · obtain ⟨_, rfl, q2⟩ | ⟨q, _⟩ := hy2
        · obtain ⟨_, rfl, q3⟩ | ⟨q, _⟩ := hz2
          · obtain ⟨r1, r2, r3⟩ | ⟨r1, r2⟩ := hv2
            · exact .inl ⟨r3, r1, r2⟩
            · exact .inr ⟨by omega, r1, hv0 r1⟩
          · cases q
        · cases q
      · cases q
    · intro q
      obtain ⟨_, rfl, q1⟩ | ⟨_, q1⟩ := hx2
      · obtain ⟨_, rfl, q2⟩ | ⟨_, q2⟩ := hy2
        · obtain ⟨_, rfl, q3⟩ | ⟨_, q3⟩ := hz2
          · simp_all
          · omega
        · omega
      · omega
  clear c1 c2 hA hB hx2 hy2 hz2 hv2 hcost
  generalize A + B + t.value = T at fin
  simp only [go_sem, ↓reduceIte, Nat.reduceLT, Nat.reduceLeDiff, Nat.reduceAdd, Nat.reduceSub, Nat.reduceMul, Nat.reduceEqDiff, Nat.reduceBEq, Nat.reduceMod, Nat.reduceDiv, Int.reduceToNat, reduceCtorEq, Int.reduceLT, Int.reduceLE, Int.reduceGT, Int.reduceGE, Int.reduceAdd, Int.reduceSub, Int.reduceMul, Int.reduceNeg, Int.reduceEq, Int.reduceNe, Int.reduceBNe, Int.reduceBEq, Int.reduceDiv, TxD.av, TxD.cells, ints, strs, List.length_map]
  refine ex_draw [] [4] (.quiet 0 (.quiet 1 (.quiet 2 (.quiet 3 (.two 4 (.two 5 (.quiet 6 (.quiet 7 (.quiet 8 (.one 9 (.lone 10 (.quiet 11 (.fin))))))) 9 (.one 5 (.quiet 6 (.quiet 7 (.quiet 8 (.lone 10 (.quiet 11 (.fin)))))))) 9 (.one 4 (.one 5 (.quiet 6 (.quiet 7 (.quiet 8 (.lone 10 (.quiet 11 (.fin))))))))))))) (by kernel_rfl) ?_
  refine ex_drawn ⟨[(1, .var 1 0), (2, .var 2 0), (3, .bool false), (4, .var 4 0), (5, .bool e1)], [(1, [.int .i64 t.frm, .int .i64 t.nonce, .int .u64 (lim t.tip 0), .int .u64 (lim t.tip 1), .int .u64 (lim t.tip 2), .int .u64 (lim t.tip 3),
  .int .u64 (lim t.cap 0), .int .u64 (lim t.cap 1), .int .u64 (lim t.cap 2), .int .u64 (lim t.cap 3), .int .u64 (lim t.bcap 0), .int .u64 (lim t.bcap 1), .int .u64 (lim t.bcap 2), .int .u64 (lim t.bcap 3),
  .int .u64 (lim t.value 0), .int .u64 (lim t.value 1), .int .u64 (lim t.value 2), .int .u64 (lim t.value 3), .int .i64 t.gas, .sl false 1 (t.hashes.map (AV.int .u64)), .sl false 1 (t.blobs.map AV.str)]), (2, [.int .u64 0, .int .u64 0, .int .u64 0, .int .u64 0]), (4, [.int .u64 (lim x 0), .int .u64 (lim x 1), .int .u64 (lim x 2), .int .u64 (lim x 3)])]⟩ ?_ ?_
  · rw [← w1] at o1
    repeat' (first | (with_reducible refine And.intro ?_ ?_) | (refine ex_call o1 ?_) | (refine ex_call c1' ?_) |
      (simp only [go_sem, ↓reduceIte, Nat.reduceLT, Nat.reduceLeDiff, Nat.reduceAdd, Nat.reduceSub, Nat.reduceMul, Nat.reduceEqDiff, Nat.reduceBEq, Nat.reduceMod, Nat.reduceDiv, Int.reduceToNat, reduceCtorEq, Int.reduceLT, Int.reduceLE, Int.reduceGT, Int.reduceGE, Int.reduceAdd, Int.reduceSub, Int.reduceMul, Int.reduceNeg, Int.reduceEq, Int.reduceNe, Int.reduceBNe, Int.reduceBEq, Int.reduceDiv, ex_ord_two, u]))
  · simp only [go_sem, ↓reduceIte, Nat.reduceLT, Nat.reduceLeDiff, Nat.reduceAdd, Nat.reduceSub, Nat.reduceMul, Nat.reduceEqDiff, Nat.reduceBEq, Nat.reduceMod, Nat.reduceDiv, Int.reduceToNat, reduceCtorEq, Int.reduceLT, Int.reduceLE, Int.reduceGT, Int.reduceGE, Int.reduceAdd, Int.reduceSub, Int.reduceMul, Int.reduceNeg, Int.reduceEq, Int.reduceNe, Int.reduceBNe, Int.reduceBEq, Int.reduceDiv, List.length_map]
    refine ex_draw [] [6] (.quiet 0 (.quiet 1 (.quiet 2 (.quiet 3 (.quiet 4 (.quiet 5 (.two 6 (.two 7 (.quiet 8 (.quiet 9 (.quiet 10 (.one 11 (.lone 12 (.quiet 13 (.fin))))))) 11 (.one 7 (.quiet 8 (.quiet 9 (.quiet 10 (.lone 12 (.quiet 13 (.fin)))))))) 11 (.one 6 (.one 7 (.quiet 8 (.quiet 9 (.quiet 10 (.lone 12 (.quiet 13 (.fin))))))))))))))) (by kernel_rfl) ?_
    refine ex_drawn ⟨[(1, .var 1 0), (2, .var 2 0), (3, .bool false), (4, .var 4 0), (5, .bool e1), (6, .var 6 0), (7, .bool e2)], [(1, [.int .i64 t.frm, .int .i64 t.nonce, .int .u64 (lim t.tip 0), .int .u64 (lim t.tip 1), .int .u64 (lim t.tip 2), .int .u64 (lim t.tip 3), .int .u64 (lim t.cap 0), .int .u64 (lim t.cap 1), .int .u64 (lim t.cap 2), .int .u64 (lim t.cap 3), .int .u64 (lim t.bcap 0), .int .u64 (lim t.bcap 1), .int .u64 (lim t.bcap 2), .int .u64 (lim t.bcap 3), .int .u64 (lim t.value 0), .int .u64 (lim t.value 1), .int .u64 (lim t.value 2), .int .u64 (lim t.value 3), .int .i64 t.gas, .sl false 1 (t.hashes.map (AV.int .u64)), .sl false 1 (t.blobs.map AV.str)]), (2, [.int .u64 0, .int .u64 0, .int .u64 0, .int .u64 0]), (4, [.int .u64 (lim x 0), .int .u64 (lim x 1), .int .u64 (lim x 2), .int .u64 (lim x 3)]), (6, [.int .u64 (lim y 0), .int .u64 (lim y 1), .int .u64 (lim y 2), .int .u64 (lim y 3)])]⟩ ?_ ?_
    · repeat' (first | (with_reducible refine And.intro ?_ ?_) | (refine ex_call o2 ?_) | (refine ex_call c2' ?_) |
        (simp only [go_sem, ↓reduceIte, Nat.reduceLT, Nat.reduceLeDiff, Nat.reduceAdd, Nat.reduceSub, Nat.reduceMul, Nat.reduceEqDiff, Nat.reduceBEq, Nat.reduceMod, Nat.reduceDiv, Int.reduceToNat, reduceCtorEq, Int.reduceLT, Int.reduceLE, Int.reduceGT, Int.reduceGE, Int.reduceAdd, Int.reduceSub, Int.reduceMul, Int.reduceNeg, Int.reduceEq, Int.reduceNe, Int.reduceBNe, Int.reduceBEq, Int.reduceDiv, ex_ord_two, u, w2, List.length_map]))
    · clear o1 o2 c1' c2'
      cases e1 with
      | false =>
        have hn := fin.2 (by simp)
        rw [if_neg hn, decide_eq_false hn, hz4]
        simp only [go_sem, ↓reduceIte, Nat.reduceLT, Nat.reduceLeDiff, Nat.reduceAdd, Nat.reduceSub, Nat.reduceMul, Nat.reduceEqDiff, Nat.reduceBEq, Nat.reduceMod, Nat.reduceDiv, Int.reduceToNat, reduceCtorEq, Int.reduceLT, Int.reduceLE, Int.reduceGT, Int.reduceGE, Int.reduceAdd, Int.reduceSub, Int.reduceMul, Int.reduceNeg, Int.reduceEq, Int.reduceNe, Int.reduceBNe, Int.reduceBEq, Int.reduceDiv]
        refine finTup ?_
        show resOf _ _ [.cell 2 29, .tmp 3] = _
        simp only [go_sem, ↓reduceIte, Nat.reduceLT, Nat.reduceLeDiff, Nat.reduceAdd, Nat.reduceSub, Nat.reduceMul, Nat.reduceEqDiff, Nat.reduceBEq, Nat.reduceMod, Nat.reduceDiv, Int.reduceToNat, reduceCtorEq, Int.reduceLT, Int.reduceLE, Int.reduceGT, Int.reduceGE, Int.reduceAdd, Int.reduceSub, Int.reduceMul, Int.reduceNeg, Int.reduceEq, Int.reduceNe, Int.reduceBNe, Int.reduceBEq, Int.reduceDiv]
        rfl
      | true =>
        cases e2 with
        | false =>
          have hn := fin.2 (by simp)
          rw [if_neg hn, decide_eq_false hn, hz4]
          simp only [go_sem, ↓reduceIte, Nat.reduceLT, Nat.reduceLeDiff, Nat.reduceAdd, Nat.reduceSub, Nat.reduceMul, Nat.reduceEqDiff, Nat.reduceBEq, Nat.reduceMod, Nat.reduceDiv, Int.reduceToNat, reduceCtorEq, Int.reduceLT, Int.reduceLE, Int.reduceGT, Int.reduceGE, Int.reduceAdd, Int.reduceSub, Int.reduceMul, Int.reduceNeg, Int.reduceEq, Int.reduceNe, Int.reduceBNe, Int.reduceBEq, Int.reduceDiv]
          refine finTup ?_
          show resOf _ _ [.cell 2 29, .tmp 3] = _
          simp only [go_sem, ↓reduceIte, Nat.reduceLT, Nat.reduceLeDiff, Nat.reduceAdd, Nat.reduceSub, Nat.reduceMul, Nat.reduceEqDiff, Nat.reduceBEq, Nat.reduceMod, Nat.reduceDiv, Int.reduceToNat, reduceCtorEq, Int.reduceLT, Int.reduceLE, Int.reduceGT, Int.reduceGE, Int.reduceAdd, Int.reduceSub, Int.reduceMul, Int.reduceNeg, Int.reduceEq, Int.reduceNe, Int.reduceBNe, Int.reduceBEq, Int.reduceDiv]
          rfl
        | true =>
          simp only [go_sem, ↓reduceIte, Nat.reduceLT, Nat.reduceLeDiff, Nat.reduceAdd, Nat.reduceSub, Nat.reduceMul, Nat.reduceEqDiff, Nat.reduceBEq, Nat.reduceMod, Nat.reduceDiv, Int.reduceToNat, reduceCtorEq, Int.reduceLT, Int.reduceLE, Int.reduceGT, Int.reduceGE, Int.reduceAdd, Int.reduceSub, Int.reduceMul, Int.reduceNeg, Int.reduceEq, Int.reduceNe, Int.reduceBNe, Int.reduceBEq, Int.reduceDiv]
          refine ex_call (by exact c3) ?_
          cases e3 with
          | false =>
            have hn := fin.2 (by simp)
            rw [if_neg hn, decide_eq_false hn, hz4]
            simp only [go_sem, ↓reduceIte, Nat.reduceLT, Nat.reduceLeDiff, Nat.reduceAdd, Nat.reduceSub, Nat.reduceMul, Nat.reduceEqDiff, Nat.reduceBEq, Nat.reduceMod, Nat.reduceDiv, Int.reduceToNat, reduceCtorEq, Int.reduceLT, Int.reduceLE, Int.reduceGT, Int.reduceGE, Int.reduceAdd, Int.reduceSub, Int.reduceMul, Int.reduceNeg, Int.reduceEq, Int.reduceNe, Int.reduceBNe, Int.reduceBEq, Int.reduceDiv, u]
            refine finTup ?_
            show resOf _ _ [.cell 2 29, .tmp 3] = _
            simp only [go_sem, ↓reduceIte, Nat.reduceLT, Nat.reduceLeDiff, Nat.reduceAdd, Nat.reduceSub, Nat.reduceMul, Nat.reduceEqDiff, Nat.reduceBEq, Nat.reduceMod, Nat.reduceDiv, Int.reduceToNat, reduceCtorEq, Int.reduceLT, Int.reduceLE, Int.reduceGT, Int.reduceGE, Int.reduceAdd, Int.reduceSub, Int.reduceMul, Int.reduceNeg, Int.reduceEq, Int.reduceNe, Int.reduceBNe, Int.reduceBEq, Int.reduceDiv]
            rfl
          | true =>
            simp only [go_sem, ↓reduceIte, Nat.reduceLT, Nat.reduceLeDiff, Nat.reduceAdd, Nat.reduceSub, Nat.reduceMul, Nat.reduceEqDiff, Nat.reduceBEq, Nat.reduceMod, Nat.reduceDiv, Int.reduceToNat, reduceCtorEq, Int.reduceLT, Int.reduceLE, Int.reduceGT, Int.reduceGE, Int.reduceAdd, Int.reduceSub, Int.reduceMul, Int.reduceNeg, Int.reduceEq, Int.reduceNe, Int.reduceBNe, Int.reduceBEq, Int.reduceDiv, u]
            refine ex_call (by exact c4) ?_
            simp only [go_sem, ↓reduceIte, Nat.reduceLT, Nat.reduceLeDiff, Nat.reduceAdd, Nat.reduceSub, Nat.reduceMul, Nat.reduceEqDiff, Nat.reduceBEq, Nat.reduceMod, Nat.reduceDiv, Int.reduceToNat, reduceCtorEq, Int.reduceLT, Int.reduceLE, Int.reduceGT, Int.reduceGE, Int.reduceAdd, Int.reduceSub, Int.reduceMul, Int.reduceNeg, Int.reduceEq, Int.reduceNe, Int.reduceBNe, Int.reduceBEq, Int.reduceDiv, u]
            refine finTup ?_
            show resOf _ _ [.cell 2 29, .tmp 3] = _
            obtain ⟨f1, rfl, rfl⟩ | ⟨f1, rfl, rfl⟩ := fin.1 rfl rfl rfl
            · rw [if_pos f1, decide_eq_true f1]
              simp only [go_sem, ↓reduceIte, Nat.reduceLT, Nat.reduceLeDiff, Nat.reduceAdd, Nat.reduceSub, Nat.reduceMul, Nat.reduceEqDiff, Nat.reduceBEq, Nat.reduceMod, Nat.reduceDiv, Int.reduceToNat, reduceCtorEq, Int.reduceLT, Int.reduceLE, Int.reduceGT, Int.reduceGE, Int.reduceAdd, Int.reduceSub, Int.reduceMul, Int.reduceNeg, Int.reduceEq, Int.reduceNe, Int.reduceBNe, Int.reduceBEq, Int.reduceDiv, u]
            · rw [if_neg f1, decide_eq_false f1]
              simp only [go_sem, ↓reduceIte, Nat.reduceLT, Nat.reduceLeDiff, Nat.reduceAdd, Nat.reduceSub, Nat.reduceMul, Nat.reduceEqDiff, Nat.reduceBEq, Nat.reduceMod, Nat.reduceDiv, Int.reduceToNat, reduceCtorEq, Int.reduceLT, Int.reduceLE, Int.reduceGT, Int.reduceGE, Int.reduceAdd, Int.reduceSub, Int.reduceMul, Int.reduceNeg, Int.reduceEq, Int.reduceNe, Int.reduceBNe, Int.reduceBEq, Int.reduceDiv, u]

/-! Which transactions may be. -/
def validTx (t : TxD) : Bool := decide (0 ≤ t.frm) && decide (t.frm < 8) && (decide (0 ≤ t.nonce) && decide (t.nonce ≤ 1099511627776)) && (decide (0 ≤ t.gas) && decide (t.gas ≤ 1073741824)) && decide (t.tip ≤ t.cap) && decide (fitsOf t.hashes t.blobs = 0) && decide (costOf t < U)
theorem fits_len {hs : List Int} {bs : List (List UInt8)} (h : fitsOf hs bs = 0) : 1 ≤ bs.length ∧ bs.length ≤ 4 ∧ hs.length = bs.length := by
  unfold fitsOf at h
  cases hb : badFit hs bs with
  | true => rw [hb] at h; cases h
  | false =>
    simp only [badFit, Bool.or_eq_false_iff, decide_eq_false_iff_not, ne_eq, Decidable.not_not] at hb
    omega
theorem cmp_le {n m : Nat} : decide (cmpOf n m > 0) = !decide (n ≤ m) := by
  unfold cmpOf
  rw [Bool.eq_iff_iff]
  simp only [decide_eq_true_eq, Bool.not_eq_true', decide_eq_false_iff_not]
  split <;> (try split) <;> omega

theorem c_tx_Check (t : TxD) (h : t.ok) : Contract Try.prog 59 [t.av] (.int .i64 (if validTx t = true then 0 else 1)) := by
  refine contract_of (C := cf 50 [1, 2, 4, 5, 30, 49] (fun _ => [])) (cf_ok _ _ _) (fn := Try.f59) Try.func59 (by kernel_rfl) rfl (by kernel_rfl) (by simp [cf]) (plain1 t.plain) (by decide) (noCell (by kernel_rfl)) ?_
  have bad : ∀ {p : Prop}, (validTx t = true → p) → ¬ p → (if validTx t = true then (0 : Int) else 1) = 1 := fun h1 h2 => if_neg fun e => h2 (h1 e)
  have v1 : validTx t = true → 0 ≤ t.frm ∧ t.frm < 8 := fun e => by simp only [validTx, Bool.and_eq_true, decide_eq_true_eq] at e; omega
  have v2 : validTx t = true → 0 ≤ t.nonce ∧ t.nonce ≤ 1099511627776 := fun e => by simp only [validTx, Bool.and_eq_true, decide_eq_true_eq] at e; omega
  have v3 : validTx t = true → 0 ≤ t.gas ∧ t.gas ≤ 1073741824 := fun e => by simp only [validTx, Bool.and_eq_true, decide_eq_true_eq] at e; omega
  have v4 : validTx t = true → t.tip ≤ t.cap := fun e => by simp only [validTx, Bool.and_eq_true, decide_eq_true_eq] at e; omega
  have v5 : validTx t = true → fitsOf t.hashes t.blobs = 0 := fun e => by simp only [validTx, Bool.and_eq_true, decide_eq_true_eq] at e; exact e.1.2
  have v6 : validTx t = true → costOf t < U := fun e => by simp only [validTx, Bool.and_eq_true, decide_eq_true_eq] at e; exact e.2
  simp only [go_sem, ↓reduceIte, Nat.reduceLT, Nat.reduceLeDiff, Nat.reduceAdd, Nat.reduceSub, Nat.reduceMul, Nat.reduceEqDiff, Nat.reduceBEq, Nat.reduceMod, Nat.reduceDiv, Int.reduceToNat, reduceCtorEq, Int.reduceLT, Int.reduceLE, Int.reduceGT, Int.reduceGE, Int.reduceAdd, Int.reduceSub, Int.reduceMul, Int.reduceNeg, Int.reduceEq, Int.reduceNe, Int.reduceBNe, Int.reduceBEq, Int.reduceDiv, TxD.av, TxD.cells, ints, strs, List.length_map]
  refine ex_joinB 5 (decide (t.frm < 0) || decide (t.frm ≥ 8)) ?_ ?_
  · repeat' (first | (refine ex_split (fun h => ?_) (fun h => ?_)) | (with_reducible refine And.intro (by omega) ?_) |
      (simp only [go_sem, ↓reduceIte, Nat.reduceLT, Nat.reduceLeDiff, Nat.reduceAdd, Nat.reduceSub, Nat.reduceMul, Nat.reduceEqDiff, Nat.reduceBEq, Nat.reduceMod, Nat.reduceDiv, Int.reduceToNat, reduceCtorEq, Int.reduceLT, Int.reduceLE, Int.reduceGT, Int.reduceGE, Int.reduceAdd, Int.reduceSub, Int.reduceMul, Int.reduceNeg, Int.reduceEq, Int.reduceNe, Int.reduceBNe, Int.reduceBEq, Int.reduceDiv]))
    all_goals (try simp only [ASt.mk.injEq, List.cons.injEq, Prod.mk.injEq, AV.bool.injEq, true_and, and_true, eq_self])
    all_goals first | (simp_all; done) | (simp_all; omega) | (rw [Bool.eq_iff_iff]; simp only [List.length_map, Bool.or_eq_true, Bool.and_eq_true, Bool.not_eq_true', Bool.not_eq_false', decide_eq_true_eq, decide_eq_false_iff_not, bne_iff_ne, beq_iff_eq, ne_eq, true_iff, iff_true, false_iff, iff_false, Bool.false_eq_true, not_false_eq_true, not_true_eq_false] at *; omega)
  simp only [go_sem, ↓reduceIte, Nat.reduceLT, Nat.reduceLeDiff, Nat.reduceAdd, Nat.reduceSub, Nat.reduceMul, Nat.reduceEqDiff, Nat.reduceBEq, Nat.reduceMod, Nat.reduceDiv, Int.reduceToNat, reduceCtorEq, Int.reduceLT, Int.reduceLE, Int.reduceGT, Int.reduceGE, Int.reduceAdd, Int.reduceSub, Int.reduceMul, Int.reduceNeg, Int.reduceEq, Int.reduceNe, Int.reduceBNe, Int.reduceBEq, Int.reduceDiv]
  refine ex_br (fun b1 => ?_) (fun b1 => ?_)
  · rw [bad v1 (by simp at b1; omega)]
    simp only [go_sem, ↓reduceIte, Nat.reduceLT, Nat.reduceLeDiff, Nat.reduceAdd, Nat.reduceSub, Nat.reduceMul, Nat.reduceEqDiff, Nat.reduceBEq, Nat.reduceMod, Nat.reduceDiv, Int.reduceToNat, reduceCtorEq, Int.reduceLT, Int.reduceLE, Int.reduceGT, Int.reduceGE, Int.reduceAdd, Int.reduceSub, Int.reduceMul, Int.reduceNeg, Int.reduceEq, Int.reduceNe, Int.reduceBNe, Int.reduceBEq, Int.reduceDiv, b1]
    refine finOne ?_ (fun _ e => by cases e)
    show resOf _ _ [.tmp 2] = _
    simp only [go_sem, ↓reduceIte, Nat.reduceLT, Nat.reduceLeDiff, Nat.reduceAdd, Nat.reduceSub, Nat.reduceMul, Nat.reduceEqDiff, Nat.reduceBEq, Nat.reduceMod, Nat.reduceDiv, Int.reduceToNat, reduceCtorEq, Int.reduceLT, Int.reduceLE, Int.reduceGT, Int.reduceGE, Int.reduceAdd, Int.reduceSub, Int.reduceMul, Int.reduceNeg, Int.reduceEq, Int.reduceNe, Int.reduceBNe, Int.reduceBEq, Int.reduceDiv]
  · simp only [go_sem, ↓reduceIte, Nat.reduceLT, Nat.reduceLeDiff, Nat.reduceAdd, Nat.reduceSub, Nat.reduceMul, Nat.reduceEqDiff, Nat.reduceBEq, Nat.reduceMod, Nat.reduceDiv, Int.reduceToNat, reduceCtorEq, Int.reduceLT, Int.reduceLE, Int.reduceGT, Int.reduceGE, Int.reduceAdd, Int.reduceSub, Int.reduceMul, Int.reduceNeg, Int.reduceEq, Int.reduceNe, Int.reduceBNe, Int.reduceBEq, Int.reduceDiv]
    refine ex_joinB 5 (decide (t.nonce < 0) || decide (t.nonce > 1099511627776)) ?_ ?_
    · repeat' (first | (refine ex_split (fun h => ?_) (fun h => ?_)) | (with_reducible refine And.intro (by omega) ?_) |
        (simp only [go_sem, ↓reduceIte, Nat.reduceLT, Nat.reduceLeDiff, Nat.reduceAdd, Nat.reduceSub, Nat.reduceMul, Nat.reduceEqDiff, Nat.reduceBEq, Nat.reduceMod, Nat.reduceDiv, Int.reduceToNat, reduceCtorEq, Int.reduceLT, Int.reduceLE, Int.reduceGT, Int.reduceGE, Int.reduceAdd, Int.reduceSub, Int.reduceMul, Int.reduceNeg, Int.reduceEq, Int.reduceNe, Int.reduceBNe, Int.reduceBEq, Int.reduceDiv]))
      all_goals (try simp only [ASt.mk.injEq, List.cons.injEq, Prod.mk.injEq, AV.bool.injEq, true_and, and_true, eq_self])
      all_goals first | (simp_all; done) | (simp_all; omega) | (rw [Bool.eq_iff_iff]; simp only [List.length_map, Bool.or_eq_true, Bool.and_eq_true, Bool.not_eq_true', Bool.not_eq_false', decide_eq_true_eq, decide_eq_false_iff_not, bne_iff_ne, beq_iff_eq, ne_eq, true_iff, iff_true, false_iff, iff_false, Bool.false_eq_true, not_false_eq_true, not_true_eq_false] at *; omega)
    simp only [go_sem, ↓reduceIte, Nat.reduceLT, Nat.reduceLeDiff, Nat.reduceAdd, Nat.reduceSub, Nat.reduceMul, Nat.reduceEqDiff, Nat.reduceBEq, Nat.reduceMod, Nat.reduceDiv, Int.reduceToNat, reduceCtorEq, Int.reduceLT, Int.reduceLE, Int.reduceGT, Int.reduceGE, Int.reduceAdd, Int.reduceSub, Int.reduceMul, Int.reduceNeg, Int.reduceEq, Int.reduceNe, Int.reduceBNe, Int.reduceBEq, Int.reduceDiv]
    refine ex_br (fun b2 => ?_) (fun b2 => ?_)
    · rw [bad v2 (by simp at b2; omega)]
      simp only [go_sem, ↓reduceIte, Nat.reduceLT, Nat.reduceLeDiff, Nat.reduceAdd, Nat.reduceSub, Nat.reduceMul, Nat.reduceEqDiff, Nat.reduceBEq, Nat.reduceMod, Nat.reduceDiv, Int.reduceToNat, reduceCtorEq, Int.reduceLT, Int.reduceLE, Int.reduceGT, Int.reduceGE, Int.reduceAdd, Int.reduceSub, Int.reduceMul, Int.reduceNeg, Int.reduceEq, Int.reduceNe, Int.reduceBNe, Int.reduceBEq, Int.reduceDiv, b2]
      refine finOne ?_ (fun _ e => by cases e)
      show resOf _ _ [.tmp 2] = _
      simp only [go_sem, ↓reduceIte, Nat.reduceLT, Nat.reduceLeDiff, Nat.reduceAdd, Nat.reduceSub, Nat.reduceMul, Nat.reduceEqDiff, Nat.reduceBEq, Nat.reduceMod, Nat.reduceDiv, Int.reduceToNat, reduceCtorEq, Int.reduceLT, Int.reduceLE, Int.reduceGT, Int.reduceGE, Int.reduceAdd, Int.reduceSub, Int.reduceMul, Int.reduceNeg, Int.reduceEq, Int.reduceNe, Int.reduceBNe, Int.reduceBEq, Int.reduceDiv]
    · simp only [go_sem, ↓reduceIte, Nat.reduceLT, Nat.reduceLeDiff, Nat.reduceAdd, Nat.reduceSub, Nat.reduceMul, Nat.reduceEqDiff, Nat.reduceBEq, Nat.reduceMod, Nat.reduceDiv, Int.reduceToNat, reduceCtorEq, Int.reduceLT, Int.reduceLE, Int.reduceGT, Int.reduceGE, Int.reduceAdd, Int.reduceSub, Int.reduceMul, Int.reduceNeg, Int.reduceEq, Int.reduceNe, Int.reduceBNe, Int.reduceBEq, Int.reduceDiv]
      refine ex_joinB 5 (decide (t.gas < 0) || decide (t.gas > 1073741824)) ?_ ?_
      · repeat' (first | (refine ex_split (fun h => ?_) (fun h => ?_)) | (with_reducible refine And.intro (by omega) ?_) |
          (simp only [go_sem, ↓reduceIte, Nat.reduceLT, Nat.reduceLeDiff, Nat.reduceAdd, Nat.reduceSub, Nat.reduceMul, Nat.reduceEqDiff, Nat.reduceBEq, Nat.reduceMod, Nat.reduceDiv, Int.reduceToNat, reduceCtorEq, Int.reduceLT, Int.reduceLE, Int.reduceGT, Int.reduceGE, Int.reduceAdd, Int.reduceSub, Int.reduceMul, Int.reduceNeg, Int.reduceEq, Int.reduceNe, Int.reduceBNe, Int.reduceBEq, Int.reduceDiv]))
        all_goals (try simp only [ASt.mk.injEq, List.cons.injEq, Prod.mk.injEq, AV.bool.injEq, true_and, and_true, eq_self])
        all_goals first | (simp_all; done) | (simp_all; omega) | (rw [Bool.eq_iff_iff]; simp only [List.length_map, Bool.or_eq_true, Bool.and_eq_true, Bool.not_eq_true', Bool.not_eq_false', decide_eq_true_eq, decide_eq_false_iff_not, bne_iff_ne, beq_iff_eq, ne_eq, true_iff, iff_true, false_iff, iff_false, Bool.false_eq_true, not_false_eq_true, not_true_eq_false] at *; omega)
      simp only [go_sem, ↓reduceIte, Nat.reduceLT, Nat.reduceLeDiff, Nat.reduceAdd, Nat.reduceSub, Nat.reduceMul, Nat.reduceEqDiff, Nat.reduceBEq, Nat.reduceMod, Nat.reduceDiv, Int.reduceToNat, reduceCtorEq, Int.reduceLT, Int.reduceLE, Int.reduceGT, Int.reduceGE, Int.reduceAdd, Int.reduceSub, Int.reduceMul, Int.reduceNeg, Int.reduceEq, Int.reduceNe, Int.reduceBNe, Int.reduceBEq, Int.reduceDiv]
      refine ex_br (fun b3 => ?_) (fun b3 => ?_)
      · rw [bad v3 (by simp at b3; omega)]
        simp only [go_sem, ↓reduceIte, Nat.reduceLT, Nat.reduceLeDiff, Nat.reduceAdd, Nat.reduceSub, Nat.reduceMul, Nat.reduceEqDiff, Nat.reduceBEq, Nat.reduceMod, Nat.reduceDiv, Int.reduceToNat, reduceCtorEq, Int.reduceLT, Int.reduceLE, Int.reduceGT, Int.reduceGE, Int.reduceAdd, Int.reduceSub, Int.reduceMul, Int.reduceNeg, Int.reduceEq, Int.reduceNe, Int.reduceBNe, Int.reduceBEq, Int.reduceDiv, b3]
        refine finOne ?_ (fun _ e => by cases e)
        show resOf _ _ [.tmp 2] = _
        simp only [go_sem, ↓reduceIte, Nat.reduceLT, Nat.reduceLeDiff, Nat.reduceAdd, Nat.reduceSub, Nat.reduceMul, Nat.reduceEqDiff, Nat.reduceBEq, Nat.reduceMod, Nat.reduceDiv, Int.reduceToNat, reduceCtorEq, Int.reduceLT, Int.reduceLE, Int.reduceGT, Int.reduceGE, Int.reduceAdd, Int.reduceSub, Int.reduceMul, Int.reduceNeg, Int.reduceEq, Int.reduceNe, Int.reduceBNe, Int.reduceBEq, Int.reduceDiv]
      · simp only [go_sem, ↓reduceIte, Nat.reduceLT, Nat.reduceLeDiff, Nat.reduceAdd, Nat.reduceSub, Nat.reduceMul, Nat.reduceEqDiff, Nat.reduceBEq, Nat.reduceMod, Nat.reduceDiv, Int.reduceToNat, reduceCtorEq, Int.reduceLT, Int.reduceLE, Int.reduceGT, Int.reduceGE, Int.reduceAdd, Int.reduceSub, Int.reduceMul, Int.reduceNeg, Int.reduceEq, Int.reduceNe, Int.reduceBNe, Int.reduceBEq, Int.reduceDiv]
        refine ex_call (by exact c_u256_Cmp t.tip t.cap h.tip h.cap) ?_
        simp only [go_sem, ↓reduceIte, Nat.reduceLT, Nat.reduceLeDiff, Nat.reduceAdd, Nat.reduceSub, Nat.reduceMul, Nat.reduceEqDiff, Nat.reduceBEq, Nat.reduceMod, Nat.reduceDiv, Int.reduceToNat, reduceCtorEq, Int.reduceLT, Int.reduceLE, Int.reduceGT, Int.reduceGE, Int.reduceAdd, Int.reduceSub, Int.reduceMul, Int.reduceNeg, Int.reduceEq, Int.reduceNe, Int.reduceBNe, Int.reduceBEq, Int.reduceDiv, cmp_le]
        refine ex_br (fun b4 => ?_) (fun b4 => ?_)
        · rw [bad v4 (by simp at b4; omega)]
          simp only [go_sem, ↓reduceIte, Nat.reduceLT, Nat.reduceLeDiff, Nat.reduceAdd, Nat.reduceSub, Nat.reduceMul, Nat.reduceEqDiff, Nat.reduceBEq, Nat.reduceMod, Nat.reduceDiv, Int.reduceToNat, reduceCtorEq, Int.reduceLT, Int.reduceLE, Int.reduceGT, Int.reduceGE, Int.reduceAdd, Int.reduceSub, Int.reduceMul, Int.reduceNeg, Int.reduceEq, Int.reduceNe, Int.reduceBNe, Int.reduceBEq, Int.reduceDiv, b4]
          refine finOne ?_ (fun _ e => by cases e)
          show resOf _ _ [.tmp 2] = _
          simp only [go_sem, ↓reduceIte, Nat.reduceLT, Nat.reduceLeDiff, Nat.reduceAdd, Nat.reduceSub, Nat.reduceMul, Nat.reduceEqDiff, Nat.reduceBEq, Nat.reduceMod, Nat.reduceDiv, Int.reduceToNat, reduceCtorEq, Int.reduceLT, Int.reduceLE, Int.reduceGT, Int.reduceGE, Int.reduceAdd, Int.reduceSub, Int.reduceMul, Int.reduceNeg, Int.reduceEq, Int.reduceNe, Int.reduceBNe, Int.reduceBEq, Int.reduceDiv]
        · simp only [go_sem, ↓reduceIte, Nat.reduceLT, Nat.reduceLeDiff, Nat.reduceAdd, Nat.reduceSub, Nat.reduceMul, Nat.reduceEqDiff, Nat.reduceBEq, Nat.reduceMod, Nat.reduceDiv, Int.reduceToNat, reduceCtorEq, Int.reduceLT, Int.reduceLE, Int.reduceGT, Int.reduceGE, Int.reduceAdd, Int.reduceSub, Int.reduceMul, Int.reduceNeg, Int.reduceEq, Int.reduceNe, Int.reduceBNe, Int.reduceBEq, Int.reduceDiv]
          refine ex_call (by exact c_blob_Fits t.hashes t.blobs h.blob) ?_
          simp only [go_sem, ↓reduceIte, Nat.reduceLT, Nat.reduceLeDiff, Nat.reduceAdd, Nat.reduceSub, Nat.reduceMul, Nat.reduceEqDiff, Nat.reduceBEq, Nat.reduceMod, Nat.reduceDiv, Int.reduceToNat, reduceCtorEq, Int.reduceLT, Int.reduceLE, Int.reduceGT, Int.reduceGE, Int.reduceAdd, Int.reduceSub, Int.reduceMul, Int.reduceNeg, Int.reduceEq, Int.reduceNe, Int.reduceBNe, Int.reduceBEq, Int.reduceDiv]
          refine ex_br (fun b5 => ?_) (fun b5 => ?_)
          · rw [bad v5 (by simpa using b5)]
            simp only [go_sem, ↓reduceIte, Nat.reduceLT, Nat.reduceLeDiff, Nat.reduceAdd, Nat.reduceSub, Nat.reduceMul, Nat.reduceEqDiff, Nat.reduceBEq, Nat.reduceMod, Nat.reduceDiv, Int.reduceToNat, reduceCtorEq, Int.reduceLT, Int.reduceLE, Int.reduceGT, Int.reduceGE, Int.reduceAdd, Int.reduceSub, Int.reduceMul, Int.reduceNeg, Int.reduceEq, Int.reduceNe, Int.reduceBNe, Int.reduceBEq, Int.reduceDiv, b5]
            refine finOne ?_ (fun _ e => by cases e)
            show resOf _ _ [.tmp 2] = _
            simp only [go_sem, ↓reduceIte, Nat.reduceLT, Nat.reduceLeDiff, Nat.reduceAdd, Nat.reduceSub, Nat.reduceMul, Nat.reduceEqDiff, Nat.reduceBEq, Nat.reduceMod, Nat.reduceDiv, Int.reduceToNat, reduceCtorEq, Int.reduceLT, Int.reduceLE, Int.reduceGT, Int.reduceGE, Int.reduceAdd, Int.reduceSub, Int.reduceMul, Int.reduceNeg, Int.reduceEq, Int.reduceNe, Int.reduceBNe, Int.reduceBEq, Int.reduceDiv]
          · have hf : fitsOf t.hashes t.blobs = 0 := by simpa using b5
            have hl := fits_len hf
            have hgas : 0 ≤ t.gas ∧ t.gas ≤ 1073741824 := by simp at b3; omega
            simp only [go_sem, ↓reduceIte, Nat.reduceLT, Nat.reduceLeDiff, Nat.reduceAdd, Nat.reduceSub, Nat.reduceMul, Nat.reduceEqDiff, Nat.reduceBEq, Nat.reduceMod, Nat.reduceDiv, Int.reduceToNat, reduceCtorEq, Int.reduceLT, Int.reduceLE, Int.reduceGT, Int.reduceGE, Int.reduceAdd, Int.reduceSub, Int.reduceMul, Int.reduceNeg, Int.reduceEq, Int.reduceNe, Int.reduceBNe, Int.reduceBEq, Int.reduceDiv]
            refine ex_call (by exact c_tx_cost t h hgas ⟨hl.1, hl.2.1⟩) ?_
            simp only [go_sem, ↓reduceIte, Nat.reduceLT, Nat.reduceLeDiff, Nat.reduceAdd, Nat.reduceSub, Nat.reduceMul, Nat.reduceEqDiff, Nat.reduceBEq, Nat.reduceMod, Nat.reduceDiv, Int.reduceToNat, reduceCtorEq, Int.reduceLT, Int.reduceLE, Int.reduceGT, Int.reduceGE, Int.reduceAdd, Int.reduceSub, Int.reduceMul, Int.reduceNeg, Int.reduceEq, Int.reduceNe, Int.reduceBNe, Int.reduceBEq, Int.reduceDiv, u]
            refine ex_br (fun b6 => ?_) (fun b6 => ?_)
            · rw [bad v6 (by simpa using b6)]
              simp only [go_sem, ↓reduceIte, Nat.reduceLT, Nat.reduceLeDiff, Nat.reduceAdd, Nat.reduceSub, Nat.reduceMul, Nat.reduceEqDiff, Nat.reduceBEq, Nat.reduceMod, Nat.reduceDiv, Int.reduceToNat, reduceCtorEq, Int.reduceLT, Int.reduceLE, Int.reduceGT, Int.reduceGE, Int.reduceAdd, Int.reduceSub, Int.reduceMul, Int.reduceNeg, Int.reduceEq, Int.reduceNe, Int.reduceBNe, Int.reduceBEq, Int.reduceDiv, b6]
              refine finOne ?_ (fun _ e => by cases e)
              show resOf _ _ [.tmp 2] = _
              simp only [go_sem, ↓reduceIte, Nat.reduceLT, Nat.reduceLeDiff, Nat.reduceAdd, Nat.reduceSub, Nat.reduceMul, Nat.reduceEqDiff, Nat.reduceBEq, Nat.reduceMod, Nat.reduceDiv, Int.reduceToNat, reduceCtorEq, Int.reduceLT, Int.reduceLE, Int.reduceGT, Int.reduceGE, Int.reduceAdd, Int.reduceSub, Int.reduceMul, Int.reduceNeg, Int.reduceEq, Int.reduceNe, Int.reduceBNe, Int.reduceBEq, Int.reduceDiv]
            · have hv : validTx t = true := by
                simp only [validTx, Bool.and_eq_true, decide_eq_true_eq]
                simp at b1 b2 b4 b6
                refine ⟨⟨⟨⟨⟨⟨?_, ?_⟩, ?_, ?_⟩, ?_, ?_⟩, ?_⟩, hf⟩, ?_⟩ <;> omega
              rw [if_pos hv]
              simp only [go_sem, ↓reduceIte, Nat.reduceLT, Nat.reduceLeDiff, Nat.reduceAdd, Nat.reduceSub, Nat.reduceMul, Nat.reduceEqDiff, Nat.reduceBEq, Nat.reduceMod, Nat.reduceDiv, Int.reduceToNat, reduceCtorEq, Int.reduceLT, Int.reduceLE, Int.reduceGT, Int.reduceGE, Int.reduceAdd, Int.reduceSub, Int.reduceMul, Int.reduceNeg, Int.reduceEq, Int.reduceNe, Int.reduceBNe, Int.reduceBEq, Int.reduceDiv]
              refine finOne ?_ (fun _ e => by cases e)
              show resOf _ _ [.tmp 2] = _
              simp only [go_sem, ↓reduceIte, Nat.reduceLT, Nat.reduceLeDiff, Nat.reduceAdd, Nat.reduceSub, Nat.reduceMul, Nat.reduceEqDiff, Nat.reduceBEq, Nat.reduceMod, Nat.reduceDiv, Int.reduceToNat, reduceCtorEq, Int.reduceLT, Int.reduceLE, Int.reduceGT, Int.reduceGE, Int.reduceAdd, Int.reduceSub, Int.reduceMul, Int.reduceNeg, Int.reduceEq, Int.reduceNe, Int.reduceBNe, Int.reduceBEq, Int.reduceDiv]
end Go.Proofs.Ytgdopacmdjcgfaa.VA
