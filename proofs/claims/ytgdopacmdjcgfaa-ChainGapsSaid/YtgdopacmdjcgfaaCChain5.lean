/- The laws on chains: what they are asked, and their small functions. -/
import Derived.Test.YtgdopacmdjcgfaaCChain4
namespace Go.Proofs.Ytgdopacmdjcgfaa.VA
set_option maxRecDepth 10000
set_option linter.unusedSimpArgs false
set_option linter.unusedVariables false
set_option maxHeartbeats 8000000

structure ScriptD where
  c : List TxD
  l : List TxD
  n : List Int
  bal : Nat
def ScriptD.av (p : ScriptD) : AV := .agg [txs p.c, txs p.l, ints .i64 p.n, .int .u64 (lim p.bal 0), .int .u64 (lim p.bal 1), .int .u64 (lim p.bal 2), .int .u64 (lim p.bal 3)]
theorem ScriptD.plain (p : ScriptD) : Plain p.av := .agg _ fun c hc => by
  simp only [List.mem_cons, List.not_mem_nil, or_false] at hc
  rcases hc with rfl | rfl | rfl | rfl | rfl | rfl | rfl <;> first | exact .int _ _ | exact ints_plain _ _ | exact txs_plain _
structure ScriptD.ok (p : ScriptD) : Prop where
  cl : p.c.length * 200 ≤ reachBytes
  c : ∀ t ∈ p.c, t.ok
  ll : p.l.length * 200 ≤ reachBytes
  l : ∀ t ∈ p.l, t.ok
  nl : p.n.length * 8 ≤ reachBytes
  n : ∀ x ∈ p.n, -9223372036854775808 ≤ x ∧ x ≤ 9223372036854775807
  bal : p.bal < U
theorem ty_script {x : AV} (h : Ty ti 31 x) : ∃ p : ScriptD, x = p.av ∧ p.ok := by
  obtain ⟨xs, rfl, hn, hall⟩ := ty_struct (fs := [(0, 1, 25), (1, 1, 25), (2, 1, 26), (3, 4, 29)]) (by rw [ti31]) h
  match xs, hn with
  | [x0, x1, x2, x3], _ =>
    obtain ⟨c, rfl, h0, h1⟩ := ty_txs (hall 0 _ _ _ x0 rfl rfl)
    obtain ⟨l, rfl, h2, h3⟩ := ty_txs (hall 1 _ _ _ x1 rfl rfl)
    obtain ⟨n, rfl, h4, h5⟩ := ty_ints (e := 3) (eb := 8) (k := .i64) (by rw [ti26]) (by rw [ti3]) (hall 2 _ _ _ x2 rfl rfl)
    obtain ⟨b, rfl, h6⟩ := ty_u (hall 3 _ _ _ x3 rfl rfl)
    exact ⟨⟨c, l, n, b⟩, rfl, h0, h1, h2, h3, h4, fun x hx => wf_i64 (h5 x hx), h6⟩

theorem c_law14_num (e : Int) : Contract Try.prog 20 [.int .i64 e] (.int .i64 e) := by
  refine contract_of (C := cf 4 [0, 2] (fun _ => [])) (cf_ok _ _ _) (fn := Try.f20) Try.func20 (by kernel_rfl) rfl (by kernel_rfl) (by simp [cf]) (plain1 (.int _ e)) (by decide) (noCell (by kernel_rfl)) ?_
  simp only [go_sem, ↓reduceIte, Nat.reduceLT, Nat.reduceLeDiff, Nat.reduceAdd, Nat.reduceSub, Nat.reduceMul, Nat.reduceEqDiff, Nat.reduceBEq, Nat.reduceMod, Nat.reduceDiv, Int.reduceToNat, reduceCtorEq, Int.reduceLT, Int.reduceLE, Int.reduceGT, Int.reduceGE, Int.reduceAdd, Int.reduceSub, Int.reduceMul, Int.reduceNeg, Int.reduceEq, Int.reduceNe, Int.reduceBNe, Int.reduceBEq, Int.reduceDiv]
  refine finOne ?_ (fun _ e => by cases e)
  show resOf _ _ [.tmp 2] = _
  simp only [go_sem, ↓reduceIte, Nat.reduceLT, Nat.reduceLeDiff, Nat.reduceAdd, Nat.reduceSub, Nat.reduceMul, Nat.reduceEqDiff, Nat.reduceBEq, Nat.reduceMod, Nat.reduceDiv, Int.reduceToNat, reduceCtorEq, Int.reduceLT, Int.reduceLE, Int.reduceGT, Int.reduceGE, Int.reduceAdd, Int.reduceSub, Int.reduceMul, Int.reduceNeg, Int.reduceEq, Int.reduceNe, Int.reduceBNe, Int.reduceBEq, Int.reduceDiv]
def heavy14 (p : ScriptD) : Bool := decide (IntKind.i64.wrap (weighs p.c.length p.c + weighs p.l.length p.l) > 4000) || decide ((p.n.length : Int) > 500)
theorem c_law14_heavy (p : ScriptD) (h : p.ok) : Contract Try.prog 17 [p.av] (.bool (heavy14 p)) := by
  refine contract_of (C := cf 17 [1, 2] (fun _ => [])) (cf_ok _ _ _) (fn := Try.f17) Try.func17 (by kernel_rfl) rfl (by kernel_rfl) (by simp [cf]) (plain1 p.plain) (by decide) (noCell (by kernel_rfl)) ?_
  simp only [go_sem, ↓reduceIte, Nat.reduceLT, Nat.reduceLeDiff, Nat.reduceAdd, Nat.reduceSub, Nat.reduceMul, Nat.reduceEqDiff, Nat.reduceBEq, Nat.reduceMod, Nat.reduceDiv, Int.reduceToNat, reduceCtorEq, Int.reduceLT, Int.reduceLE, Int.reduceGT, Int.reduceGE, Int.reduceAdd, Int.reduceSub, Int.reduceMul, Int.reduceNeg, Int.reduceEq, Int.reduceNe, Int.reduceBNe, Int.reduceBEq, Int.reduceDiv, ScriptD.av, txs, ints]
  refine ex_draw [] [] (.quiet 0 (.quiet 1 (.quiet 3 (.quiet 4 (.one 2 (.one 5 (.quiet 6 (.quiet 7 (.quiet 8 (.quiet 9 (.quiet 10 (.quiet 11 (.quiet 12 (.quiet 13 (.quiet 14 (.fin)))))))))))))))) (by kernel_rfl) ?_
  simp only [go_sem, ↓reduceIte, Nat.reduceLT, Nat.reduceLeDiff, Nat.reduceAdd, Nat.reduceSub, Nat.reduceMul, Nat.reduceEqDiff, Nat.reduceBEq, Nat.reduceMod, Nat.reduceDiv, Int.reduceToNat, reduceCtorEq, Int.reduceLT, Int.reduceLE, Int.reduceGT, Int.reduceGE, Int.reduceAdd, Int.reduceSub, Int.reduceMul, Int.reduceNeg, Int.reduceEq, Int.reduceNe, Int.reduceBNe, Int.reduceBEq, Int.reduceDiv]
  refine ex_call (by exact c_TxsWeight p.c h.cl h.c) ?_
  simp only [go_sem, ↓reduceIte, Nat.reduceLT, Nat.reduceLeDiff, Nat.reduceAdd, Nat.reduceSub, Nat.reduceMul, Nat.reduceEqDiff, Nat.reduceBEq, Nat.reduceMod, Nat.reduceDiv, Int.reduceToNat, reduceCtorEq, Int.reduceLT, Int.reduceLE, Int.reduceGT, Int.reduceGE, Int.reduceAdd, Int.reduceSub, Int.reduceMul, Int.reduceNeg, Int.reduceEq, Int.reduceNe, Int.reduceBNe, Int.reduceBEq, Int.reduceDiv]
  refine ex_call (by exact c_TxsWeight p.l h.ll h.l) ?_
  cases hw : decide (IntKind.i64.wrap (weighs p.c.length p.c + weighs p.l.length p.l) > 4000)
  · have e : heavy14 p = decide ((p.n.length : Int) > 500) := by unfold heavy14; rw [hw]; rfl
    simp only [go_sem, ↓reduceIte, Nat.reduceLT, Nat.reduceLeDiff, Nat.reduceAdd, Nat.reduceSub, Nat.reduceMul, Nat.reduceEqDiff, Nat.reduceBEq, Nat.reduceMod, Nat.reduceDiv, Int.reduceToNat, reduceCtorEq, Int.reduceLT, Int.reduceLE, Int.reduceGT, Int.reduceGE, Int.reduceAdd, Int.reduceSub, Int.reduceMul, Int.reduceNeg, Int.reduceEq, Int.reduceNe, Int.reduceBNe, Int.reduceBEq, Int.reduceDiv, hw, List.length_map, e]
    refine finOne ?_ (fun _ e => by cases e)
    show resOf _ _ [.tmp 2] = _
    simp only [go_sem, ↓reduceIte, Nat.reduceLT, Nat.reduceLeDiff, Nat.reduceAdd, Nat.reduceSub, Nat.reduceMul, Nat.reduceEqDiff, Nat.reduceBEq, Nat.reduceMod, Nat.reduceDiv, Int.reduceToNat, reduceCtorEq, Int.reduceLT, Int.reduceLE, Int.reduceGT, Int.reduceGE, Int.reduceAdd, Int.reduceSub, Int.reduceMul, Int.reduceNeg, Int.reduceEq, Int.reduceNe, Int.reduceBNe, Int.reduceBEq, Int.reduceDiv]
  · have e : heavy14 p = true := by unfold heavy14; rw [hw]; rfl
    simp only [go_sem, ↓reduceIte, Nat.reduceLT, Nat.reduceLeDiff, Nat.reduceAdd, Nat.reduceSub, Nat.reduceMul, Nat.reduceEqDiff, Nat.reduceBEq, Nat.reduceMod, Nat.reduceDiv, Int.reduceToNat, reduceCtorEq, Int.reduceLT, Int.reduceLE, Int.reduceGT, Int.reduceGE, Int.reduceAdd, Int.reduceSub, Int.reduceMul, Int.reduceNeg, Int.reduceEq, Int.reduceNe, Int.reduceBNe, Int.reduceBEq, Int.reduceDiv, hw, List.length_map, e]
    refine finOne ?_ (fun _ e => by cases e)
    show resOf _ _ [.tmp 2] = _
    simp only [go_sem, ↓reduceIte, Nat.reduceLT, Nat.reduceLeDiff, Nat.reduceAdd, Nat.reduceSub, Nat.reduceMul, Nat.reduceEqDiff, Nat.reduceBEq, Nat.reduceMod, Nat.reduceDiv, Int.reduceToNat, reduceCtorEq, Int.reduceLT, Int.reduceLE, Int.reduceGT, Int.reduceGE, Int.reduceAdd, Int.reduceSub, Int.reduceMul, Int.reduceNeg, Int.reduceEq, Int.reduceNe, Int.reduceBNe, Int.reduceBEq, Int.reduceDiv]

theorem plain_ok5 (p : Nat) (hp : 2 * p < 18446744073709551616) (f n : Int) (hf : -9223372036854775808 ≤ f ∧ f ≤ 9223372036854775807) (hn : -9223372036854775808 ≤ n ∧ n ≤ 9223372036854775807) : (plainTx f n p).ok := plain_ok f n p hf hn hp
theorem chain_w1 : ChainP [plainTx 1 5 2] := ⟨by decide, fun i t e => by
    match i, e with
    | 0, e => cases e; decide +kernel, fun i a t e0 e => by
    match i, e with
    | 0, e => cases e; cases e0; exact ⟨rfl, rfl⟩, by decide +kernel⟩
theorem chain_w2 : ChainP [plainTx 1 5 2, plainTx 1 6 2] := ⟨by decide, fun i t e => by
    match i, e with
    | 0, e => cases e; decide +kernel
    | 1, e => cases e; decide +kernel, fun i a t e0 e => by
    match i, e with
    | 0, e => cases e; cases e0; exact ⟨rfl, rfl⟩
    | 1, e => cases e; cases e0; exact ⟨rfl, rfl⟩, by decide +kernel⟩
theorem add_w1 : addErr [] (plainTx 1 5 2) = 0 := by
  show (if validTx (plainTx 1 5 2) = true then (if chainOk [plainTx 1 5 2] = true then 0 else 8) else 1 : Int) = 0
  rw [if_pos (chain_w1.valid 0 _ rfl), if_pos (chainOk_yes chain_w1)]
theorem add_w2 : addErr [plainTx 1 5 2] (plainTx 1 6 2) = 0 := by
  have ho : addOut [plainTx 1 5 2] (plainTx 1 6 2) = [plainTx 1 5 2, plainTx 1 6 2] := rfl
  unfold addErr
  simp only [List.getElem?_cons_zero]
  rw [if_pos ⟨chainOk_yes chain_w1, chain_w2.valid 1 _ rfl, rfl⟩, if_neg (by decide), if_neg (by decide), if_neg (by decide), ho, if_pos (chainOk_yes chain_w2)]
theorem c_law14_wakes : Contract Try.prog 29 [] (.bool true) := by
  have ok5 : (plainTx 1 5 2).ok := plain_ok 1 5 2 (by decide) (by decide) (by decide)
  have ok6 : (plainTx 1 6 2).ok := plain_ok 1 6 2 (by decide) (by decide) (by decide)
  have a1 := c_chain_Add [] (plainTx 1 5 2) (by decide) (by simp) ok5
  rw [add_w1, if_pos rfl, show addOut [] (plainTx 1 5 2) = [plainTx 1 5 2] from rfl] at a1
  have a2 := c_chain_Add [plainTx 1 5 2] (plainTx 1 6 2) (by decide) (by simpa using ok5) ok6
  rw [add_w2, if_pos rfl, show addOut [plainTx 1 5 2] (plainTx 1 6 2) = [plainTx 1 5 2, plainTx 1 6 2] from rfl] at a2
  have a3 := c_chain_Next [plainTx 1 5 2, plainTx 1 6 2] 0 (by decide) (by simpa using ⟨ok5, ok6⟩) (chainOk_yes chain_w2) (by decide)
  rw [show nextOf [plainTx 1 5 2, plainTx 1 6 2] 0 = 7 from rfl] at a3
  refine contract_of (C := cf 44 [0, 1, 2, 3, 4, 5] (fun _ => [])) (cf_ok _ _ _) (fn := Try.f29) Try.func29 (by kernel_rfl) rfl (by kernel_rfl) (by simp [cf]) (fun _ h => by cases h) (by decide) (noCell (by kernel_rfl)) ?_
  simp only [go_sem, ↓reduceIte, Nat.reduceLT, Nat.reduceLeDiff, Nat.reduceAdd, Nat.reduceSub, Nat.reduceMul, Nat.reduceEqDiff, Nat.reduceBEq, Nat.reduceMod, Nat.reduceDiv, Int.reduceToNat, reduceCtorEq, Int.reduceLT, Int.reduceLE, Int.reduceGT, Int.reduceGE, Int.reduceAdd, Int.reduceSub, Int.reduceMul, Int.reduceNeg, Int.reduceEq, Int.reduceNe, Int.reduceBNe, Int.reduceBEq, Int.reduceDiv]
  refine ex_call (by exact c_T 1 5 2 (by decide)) ?_
  simp only [go_sem, ↓reduceIte, Nat.reduceLT, Nat.reduceLeDiff, Nat.reduceAdd, Nat.reduceSub, Nat.reduceMul, Nat.reduceEqDiff, Nat.reduceBEq, Nat.reduceMod, Nat.reduceDiv, Int.reduceToNat, reduceCtorEq, Int.reduceLT, Int.reduceLE, Int.reduceGT, Int.reduceGE, Int.reduceAdd, Int.reduceSub, Int.reduceMul, Int.reduceNeg, Int.reduceEq, Int.reduceNe, Int.reduceBNe, Int.reduceBEq, Int.reduceDiv, TxD.av]
  refine ex_call_dull (.cons (dsl _ _ _) (.cons (.refl _) .nil)) (by exact a1) ?_
  simp only [go_sem, ↓reduceIte, Nat.reduceLT, Nat.reduceLeDiff, Nat.reduceAdd, Nat.reduceSub, Nat.reduceMul, Nat.reduceEqDiff, Nat.reduceBEq, Nat.reduceMod, Nat.reduceDiv, Int.reduceToNat, reduceCtorEq, Int.reduceLT, Int.reduceLE, Int.reduceGT, Int.reduceGE, Int.reduceAdd, Int.reduceSub, Int.reduceMul, Int.reduceNeg, Int.reduceEq, Int.reduceNe, Int.reduceBNe, Int.reduceBEq, Int.reduceDiv]
  refine ex_call (by exact c_T 1 6 2 (by decide)) ?_
  simp only [go_sem, ↓reduceIte, Nat.reduceLT, Nat.reduceLeDiff, Nat.reduceAdd, Nat.reduceSub, Nat.reduceMul, Nat.reduceEqDiff, Nat.reduceBEq, Nat.reduceMod, Nat.reduceDiv, Int.reduceToNat, reduceCtorEq, Int.reduceLT, Int.reduceLE, Int.reduceGT, Int.reduceGE, Int.reduceAdd, Int.reduceSub, Int.reduceMul, Int.reduceNeg, Int.reduceEq, Int.reduceNe, Int.reduceBNe, Int.reduceBEq, Int.reduceDiv, TxD.av]
  refine ex_call (by exact a2) ?_
  simp only [go_sem, ↓reduceIte, Nat.reduceLT, Nat.reduceLeDiff, Nat.reduceAdd, Nat.reduceSub, Nat.reduceMul, Nat.reduceEqDiff, Nat.reduceBEq, Nat.reduceMod, Nat.reduceDiv, Int.reduceToNat, reduceCtorEq, Int.reduceLT, Int.reduceLE, Int.reduceGT, Int.reduceGE, Int.reduceAdd, Int.reduceSub, Int.reduceMul, Int.reduceNeg, Int.reduceEq, Int.reduceNe, Int.reduceBNe, Int.reduceBEq, Int.reduceDiv]
  refine ex_call (by exact a3) ?_
  simp only [go_sem, ↓reduceIte, Nat.reduceLT, Nat.reduceLeDiff, Nat.reduceAdd, Nat.reduceSub, Nat.reduceMul, Nat.reduceEqDiff, Nat.reduceBEq, Nat.reduceMod, Nat.reduceDiv, Int.reduceToNat, reduceCtorEq, Int.reduceLT, Int.reduceLE, Int.reduceGT, Int.reduceGE, Int.reduceAdd, Int.reduceSub, Int.reduceMul, Int.reduceNeg, Int.reduceEq, Int.reduceNe, Int.reduceBNe, Int.reduceBEq, Int.reduceDiv]
  refine ex_call (c_law14_num _) ?_
  simp only [go_sem, ↓reduceIte, Nat.reduceLT, Nat.reduceLeDiff, Nat.reduceAdd, Nat.reduceSub, Nat.reduceMul, Nat.reduceEqDiff, Nat.reduceBEq, Nat.reduceMod, Nat.reduceDiv, Int.reduceToNat, reduceCtorEq, Int.reduceLT, Int.reduceLE, Int.reduceGT, Int.reduceGE, Int.reduceAdd, Int.reduceSub, Int.reduceMul, Int.reduceNeg, Int.reduceEq, Int.reduceNe, Int.reduceBNe, Int.reduceBEq, Int.reduceDiv]
  refine ex_call (c_law14_num _) ?_
  simp only [go_sem, ↓reduceIte, Nat.reduceLT, Nat.reduceLeDiff, Nat.reduceAdd, Nat.reduceSub, Nat.reduceMul, Nat.reduceEqDiff, Nat.reduceBEq, Nat.reduceMod, Nat.reduceDiv, Int.reduceToNat, reduceCtorEq, Int.reduceLT, Int.reduceLE, Int.reduceGT, Int.reduceGE, Int.reduceAdd, Int.reduceSub, Int.reduceMul, Int.reduceNeg, Int.reduceEq, Int.reduceNe, Int.reduceBNe, Int.reduceBEq, Int.reduceDiv]
  refine ex_call (c_law14_num _) ?_
  simp only [go_sem, ↓reduceIte, Nat.reduceLT, Nat.reduceLeDiff, Nat.reduceAdd, Nat.reduceSub, Nat.reduceMul, Nat.reduceEqDiff, Nat.reduceBEq, Nat.reduceMod, Nat.reduceDiv, Int.reduceToNat, reduceCtorEq, Int.reduceLT, Int.reduceLE, Int.reduceGT, Int.reduceGE, Int.reduceAdd, Int.reduceSub, Int.reduceMul, Int.reduceNeg, Int.reduceEq, Int.reduceNe, Int.reduceBNe, Int.reduceBEq, Int.reduceDiv, List.map_cons, List.map_nil, List.length_cons, List.length_nil, Int.cast_ofNat_Int]
  refine finOne ?_ (fun _ e => by cases e)
  show resOf _ _ [.tmp 0] = _
  simp only [go_sem, ↓reduceIte, Nat.reduceLT, Nat.reduceLeDiff, Nat.reduceAdd, Nat.reduceSub, Nat.reduceMul, Nat.reduceEqDiff, Nat.reduceBEq, Nat.reduceMod, Nat.reduceDiv, Int.reduceToNat, reduceCtorEq, Int.reduceLT, Int.reduceLE, Int.reduceGT, Int.reduceGE, Int.reduceAdd, Int.reduceSub, Int.reduceMul, Int.reduceNeg, Int.reduceEq, Int.reduceNe, Int.reduceBNe, Int.reduceBEq, Int.reduceDiv]
end Go.Proofs.Ytgdopacmdjcgfaa.VA
