/- ChainAsks: the law's function answers true. Two laws on chains. -/
import Derived.Test.YtpepfhbfooeoeaaT1
import Derived.Test.YtpepfhbfooeoeaaT2
import Derived.Test.YtpepfhbfooeoeaaT3
import Derived.Test.YtpepfhbfooeoeaaT4
import Derived.Test.YtpepfhbfooeoeaaT5
import Derived.Test.YtpepfhbfooeoeaaT6
section
/- ChainAsks: the law's function answers true. -/
namespace Go.Proofs.Ytpepfhbfooeoeaa.VA
set_option maxRecDepth 10000
set_option linter.unusedSimpArgs false
set_option linter.unusedVariables false
set_option maxHeartbeats 16000000

def spcA (f : FuncId) : Bool := Nat.beq f 42 || (Nat.beq f 43 || (Nat.beq f 36 || Nat.beq f 35))
def splA (f : FuncId) : Bool := Nat.beq f 36
theorem spcA_heavy : spcA 27 = false := rfl
theorem spcA_Copy : spcA 28 = false := rfl
theorem spcA_Chain : spcA 29 = false := rfl
theorem spcA_num : spcA 30 = false := rfl
theorem spcA_rSp : spcA 38 = false := rfl
theorem spcA_rCov : spcA 39 = false := rfl
theorem spcA_Sp : spcA 40 = false := rfl
theorem spcA_Cov : spcA 41 = false := rfl
theorem spcA_Cut : spcA 42 = true := rfl
theorem spcA_From : spcA 43 = true := rfl
theorem spcA_rCut : spcA 44 = false := rfl
theorem spcA_Next : spcA 45 = false := rfl
theorem spcA_Num : spcA 46 = false := rfl
theorem spcA_rNext : spcA 47 = false := rfl
theorem spcA_Eq : spcA 35 = true := rfl
theorem spcA_Txs : spcA 36 = true := rfl
theorem spcA_wakes : spcA 37 = false := rfl
theorem c_ChainAsks (p : ScriptD) (h : p.ok) : Contract Try.prog 7 [p.av] (.bool true) := by
  have hcl := h.cl
  unfold reachBytes at hcl
  have hcp := c_CopyTxs p.c h.cl h.c
  have hCh := c_ref14_Chain p.c h.cl h.c
  have hSp := c_chain_Spent p.c h.cl h.c
  have hCv := c_Covered p.c p.bal h.bal h.cl h.c
  refine contract_of (C := cfs 190 [1, 2, 3, 4, 5, 6, 7, 8, 9, 10, 11, 12, 13, 14, 15, 16, 17, 18, 19, 20, 21, 22, 24, 29, 74, 83, 109, 142, 151, 171, 188] spcA splA) (cfs_ok _ _ _ _) (fn := Try.f7) Try.func7 (by kernel_rfl) rfl (by kernel_rfl) (by simp [cfs]) (hspc := fun _ => rfl) (plain1 p.plain) (by decide) (noCell (by kernel_rfl)) ?_
  simp only [go_sem, seval, cfs, spcA_heavy, ScriptD.av, txs, ints]
  refine ex_call (by exact c_law14_heavy p h) ?_
  simp only [go_sem, seval, spcA_heavy, spcA_Copy, spcA_Chain, spcA_num, spcA_rSp, spcA_rCov, spcA_Sp, spcA_Cov, spcA_Cut, spcA_From, spcA_rCut, spcA_Next, spcA_Num, spcA_rNext, spcA_Eq, spcA_Txs, spcA_wakes]
  refine ex_br (fun hh => ?_) (fun hh => ?_)
  · simp only [go_sem, seval, spcA_heavy, spcA_Copy, spcA_Chain, spcA_num, spcA_rSp, spcA_rCov, spcA_Sp, spcA_Cov, spcA_Cut, spcA_From, spcA_rCut, spcA_Next, spcA_Num, spcA_rNext, spcA_Eq, spcA_Txs, spcA_wakes]
    refine finOne ?_ (fun _ e => by cases e)
    show resOf _ _ [.tmp 2] = _
    simp only [go_sem, seval, spcA_heavy, spcA_Copy, spcA_Chain, spcA_num, spcA_rSp, spcA_rCov, spcA_Sp, spcA_Cov, spcA_Cut, spcA_From, spcA_rCut, spcA_Next, spcA_Num, spcA_rNext, spcA_Eq, spcA_Txs, spcA_wakes]
  · simp only [go_sem, seval, spcA_heavy, spcA_Copy, spcA_Chain, spcA_num, spcA_rSp, spcA_rCov, spcA_Sp, spcA_Cov, spcA_Cut, spcA_From, spcA_rCut, spcA_Next, spcA_Num, spcA_rNext, spcA_Eq, spcA_Txs, spcA_wakes]
    refine ex_call (by exact hCh) ?_
    cases hch : chainOk p.c
    · rw [hch] at hSp hCv
      have cz : (((0 : Nat) : Int) != 0) = false := rfl
      have y0 : lim 0 0 = 0 := by decide
      have y1 : lim 0 1 = 0 := by decide
      have y2 : lim 0 2 = 0 := by decide
      have y3 : lim 0 3 = 0 := by decide
      simp only [go_sem, seval, spcA_heavy, spcA_Copy, spcA_Chain, spcA_num, spcA_rSp, spcA_rCov, spcA_Sp, spcA_Cov, spcA_Cut, spcA_From, spcA_rCut, spcA_Next, spcA_Num, spcA_rNext, spcA_Eq, spcA_Txs, spcA_wakes]
      refine ex_call (by exact hSp) ?_
      simp only [go_sem, seval, spcA_heavy, spcA_Copy, spcA_Chain, spcA_num, spcA_rSp, spcA_rCov, spcA_Sp, spcA_Cov, spcA_Cut, spcA_From, spcA_rCut, spcA_Next, spcA_Num, spcA_rNext, spcA_Eq, spcA_Txs, spcA_wakes, u, y0, y1, y2, y3]
      refine ex_call (by exact hCv) ?_
      simp only [go_sem, seval, spcA_heavy, spcA_Copy, spcA_Chain, spcA_num, spcA_rSp, spcA_rCov, spcA_Sp, spcA_Cov, spcA_Cut, spcA_From, spcA_rCut, spcA_Next, spcA_Num, spcA_rNext, spcA_Eq, spcA_Txs, spcA_wakes, u, y0, y1, y2, y3]
      refine ex_call (by exact c_law14_num _) ?_
      simp only [go_sem, seval, spcA_heavy, spcA_Copy, spcA_Chain, spcA_num, spcA_rSp, spcA_rCov, spcA_Sp, spcA_Cov, spcA_Cut, spcA_From, spcA_rCut, spcA_Next, spcA_Num, spcA_rNext, spcA_Eq, spcA_Txs, spcA_wakes, bne_self_eq_false, cz, y0, y1, y2, y3]
      refine ex_call (by exact c_law14_num _) ?_
      simp only [go_sem, seval, spcA_heavy, spcA_Copy, spcA_Chain, spcA_num, spcA_rSp, spcA_rCov, spcA_Sp, spcA_Cov, spcA_Cut, spcA_From, spcA_rCut, spcA_Next, spcA_Num, spcA_rNext, spcA_Eq, spcA_Txs, spcA_wakes, bne_self_eq_false, cz, y0, y1, y2, y3]
      refine ex_iter [1, 3, 4, 11] (fun i : Nat => ⟨[(1, .var 1 0), (3, .bool false), (4, .int .i64 1), (11, .int .i64 i)], [(1, [.sl false 21 (p.c.map TxD.av), .sl false 21 (p.l.map TxD.av), .sl false 1 (p.n.map (AV.int .i64)), .int .u64 (lim p.bal 0), .int .u64 (lim p.bal 1), .int .u64 (lim p.bal 2), .int .u64 (lim p.bal 3)])], []⟩) (fun i => i ≤ 12) (fun i => 12 - i) 0 ?_ ?_ ?_
      · simp only [ASt.keep, consIf, keepL, keepV, AV.isBot, List.contains_cons, List.contains_nil, Nat.reduceBEq, Bool.or_false, Bool.false_or, Bool.or_true, Bool.true_or, beq_self_eq_true, Bool.false_eq_true, ↓reduceIte, if_false, if_true]
        rfl
      · exact Nat.zero_le _
      · rintro m i hi next
        simp only [go_sem, seval, spcA_heavy, spcA_Copy, spcA_Chain, spcA_num, spcA_rSp, spcA_rCov, spcA_Sp, spcA_Cov, spcA_Cut, spcA_From, spcA_rCut, spcA_Next, spcA_Num, spcA_rNext, spcA_Eq, spcA_Txs, spcA_wakes, List.length_map]
        refine ex_joinB 83 (decide (i < p.n.length) && decide (i < 12)) ?_ ?_
        · repeat' (first | (refine ex_split (fun h => ?_) (fun h => ?_)) | (with_reducible refine And.intro (by omega) ?_) |
            (simp only [go_sem, seval, List.length_map]))
          all_goals (try simp only [ASt.mk.injEq, List.cons.injEq, Prod.mk.injEq, AV.bool.injEq, true_and, and_true, eq_self])
          all_goals first | (simp_all; done) | (simp_all; omega) | (rw [Bool.eq_iff_iff]; simp only [List.length_map, Bool.or_eq_true, Bool.and_eq_true, Bool.not_eq_true', Bool.not_eq_false', decide_eq_true_eq, decide_eq_false_iff_not, bne_iff_ne, beq_iff_eq, ne_eq, true_iff, iff_true, false_iff, iff_false, Bool.false_eq_true, not_false_eq_true, not_true_eq_false] at *; omega)
        simp only [go_sem, seval, spcA_heavy, spcA_Copy, spcA_Chain, spcA_num, spcA_rSp, spcA_rCov, spcA_Sp, spcA_Cov, spcA_Cut, spcA_From, spcA_rCut, spcA_Next, spcA_Num, spcA_rNext, spcA_Eq, spcA_Txs, spcA_wakes]
        refine ex_br (fun hc => ?_) (fun hc => ?_)
        · have hlt : i < p.n.length ∧ i < 12 := by simpa using hc
          obtain ⟨n0, en⟩ : ∃ n0, p.n[i]? = some n0 := ⟨_, List.getElem?_eq_getElem hlt.1⟩
          have hA := c_chain_CutT p.c n0 h.cl h.c
          have hB := c_chain_FromT p.c n0 h.cl h.c
          have hN := c_chain_NextG p.c n0 h.cl h.c
          rw [hch] at hA hB hN
          have hE1 := c_EqTxs [] [] (by decide) (by decide) (by simp) (by simp)
          have hE2 := hE1
          have hS1 := spoil_Txs [] (by simp) (by decide)
          have hS2 := hS1
          have hE3 := c_EqTxs p.c p.c h.cl h.cl h.c h.c
          rw [decide_eq_true rfl] at hE1 hE2 hE3
          simp only [go_sem, seval, spcA_heavy, spcA_Copy, spcA_Chain, spcA_num, spcA_rSp, spcA_rCov, spcA_Sp, spcA_Cov, spcA_Cut, spcA_From, spcA_rCut, spcA_Next, spcA_Num, spcA_rNext, spcA_Eq, spcA_Txs, spcA_wakes]
          refine ex_call (by exact hcp) ?_
          simp only [go_sem, seval, spcA_heavy, spcA_Copy, spcA_Chain, spcA_num, spcA_rSp, spcA_rCov, spcA_Sp, spcA_Cov, spcA_Cut, spcA_From, spcA_rCut, spcA_Next, spcA_Num, spcA_rNext, spcA_Eq, spcA_Txs, spcA_wakes, List.length_map, List.getElem?_map, en, Int.toNat_natCast]
          repeat with_reducible refine And.intro (by first | omega | (simp only [List.length_cons, List.length_append, List.length_nil, List.length_map, List.length_take, List.length_drop, List.length_set]; omega)) ?_
          try simp only [go_sem, seval, spcA_heavy, spcA_Copy, spcA_Chain, spcA_num, spcA_rSp, spcA_rCov, spcA_Sp, spcA_Cov, spcA_Cut, spcA_From, spcA_rCut, spcA_Next, spcA_Num, spcA_rNext, spcA_Eq, spcA_Txs, spcA_wakes, List.length_map, List.getElem?_map, en, Int.toNat_natCast]
          refine ex_fork (.cons (dsl _ _ _) (.cons (.refl _) .nil)) (by exact hA) rfl rfl (fun z1 => ?_)
          simp only [go_sem, seval, spcA_heavy, spcA_Copy, spcA_Chain, spcA_num, spcA_rSp, spcA_rCov, spcA_Sp, spcA_Cov, spcA_Cut, spcA_From, spcA_rCut, spcA_Next, spcA_Num, spcA_rNext, spcA_Eq, spcA_Txs, spcA_wakes, ASt.stow, AV.stowT, AV.stowA, AV.stow, List.length_map, List.getElem?_map, en, Int.toNat_natCast]
          repeat with_reducible refine And.intro (by first | omega | (simp only [List.length_cons, List.length_append, List.length_nil, List.length_map, List.length_take, List.length_drop, List.length_set]; omega)) ?_
          try simp only [go_sem, seval, spcA_heavy, spcA_Copy, spcA_Chain, spcA_num, spcA_rSp, spcA_rCov, spcA_Sp, spcA_Cov, spcA_Cut, spcA_From, spcA_rCut, spcA_Next, spcA_Num, spcA_rNext, spcA_Eq, spcA_Txs, spcA_wakes, List.length_map, List.getElem?_map, en, Int.toNat_natCast]
          refine ex_fork (.cons (dsl _ _ _) (.cons (.refl _) .nil)) (by exact hB) rfl rfl (fun z2 => ?_)
          simp only [go_sem, seval, spcA_heavy, spcA_Copy, spcA_Chain, spcA_num, spcA_rSp, spcA_rCov, spcA_Sp, spcA_Cov, spcA_Cut, spcA_From, spcA_rCut, spcA_Next, spcA_Num, spcA_rNext, spcA_Eq, spcA_Txs, spcA_wakes, ASt.stow, AV.stowT, AV.stowA, AV.stow, List.length_map, List.getElem?_map, en, Int.toNat_natCast]
          refine ex_call (by exact c_law14_num _) ?_
          simp only [go_sem, seval, spcA_heavy, spcA_Copy, spcA_Chain, spcA_num, spcA_rSp, spcA_rCov, spcA_Sp, spcA_Cov, spcA_Cut, spcA_From, spcA_rCut, spcA_Next, spcA_Num, spcA_rNext, spcA_Eq, spcA_Txs, spcA_wakes, bne_self_eq_false, cz, y0, y1, y2, y3]
          refine ex_call (by exact c_law14_num _) ?_
          simp only [go_sem, seval, spcA_heavy, spcA_Copy, spcA_Chain, spcA_num, spcA_rSp, spcA_rCov, spcA_Sp, spcA_Cov, spcA_Cut, spcA_From, spcA_rCut, spcA_Next, spcA_Num, spcA_rNext, spcA_Eq, spcA_Txs, spcA_wakes, bne_self_eq_false, cz, y0, y1, y2, y3]
          refine ex_ask z1 (.tail _ (.head _)) (.cons (.st (dsl _ _ _)) (.cons (.dull (dsl _ _ _) rfl) .nil)) (by exact hE1) rfl ?_
          simp only [go_sem, seval, spcA_heavy, spcA_Copy, spcA_Chain, spcA_num, spcA_rSp, spcA_rCov, spcA_Sp, spcA_Cov, spcA_Cut, spcA_From, spcA_rCut, spcA_Next, spcA_Num, spcA_rNext, spcA_Eq, spcA_Txs, spcA_wakes]
          refine ex_ask z2 (.head _) (.cons (.st (dsl _ _ _)) (.cons (.dull (dsl _ _ _) rfl) .nil)) (by exact hE2) rfl ?_
          simp only [go_sem, seval, spcA_heavy, spcA_Copy, spcA_Chain, spcA_num, spcA_rSp, spcA_rCov, spcA_Sp, spcA_Cov, spcA_Cut, spcA_From, spcA_rCut, spcA_Next, spcA_Num, spcA_rNext, spcA_Eq, spcA_Txs, spcA_wakes]
          refine ex_spoil z1 [z2] [] rfl rfl (.st _) (by exact hS1) ?_
          simp only [go_sem, seval, spcA_heavy, spcA_Copy, spcA_Chain, spcA_num, spcA_rSp, spcA_rCov, spcA_Sp, spcA_Cov, spcA_Cut, spcA_From, spcA_rCut, spcA_Next, spcA_Num, spcA_rNext, spcA_Eq, spcA_Txs, spcA_wakes, ASt.unstow]
          refine ex_spoil z2 [] [] rfl rfl (.st _) (by exact hS2) ?_
          simp only [go_sem, seval, spcA_heavy, spcA_Copy, spcA_Chain, spcA_num, spcA_rSp, spcA_rCov, spcA_Sp, spcA_Cov, spcA_Cut, spcA_From, spcA_rCut, spcA_Next, spcA_Num, spcA_rNext, spcA_Eq, spcA_Txs, spcA_wakes, ASt.unstow]
          refine ex_plain (.cons (dsl _ _ _) (.cons (.refl _) .nil)) (by exact hE3) ?_
          simp only [go_sem, seval, spcA_heavy, spcA_Copy, spcA_Chain, spcA_num, spcA_rSp, spcA_rCov, spcA_Sp, spcA_Cov, spcA_Cut, spcA_From, spcA_rCut, spcA_Next, spcA_Num, spcA_rNext, spcA_Eq, spcA_Txs, spcA_wakes]
          refine ex_draw [] [] (.quiet 0 (.quiet 1 (.quiet 2 (.quiet 3 (.quiet 4 (.quiet 5 (.quiet 6 (.one 7 (.quiet 8 (.quiet 9 (.quiet 10 (.quiet 11 (.quiet 12 (.fin)))))))))))))) (by kernel_rfl) ?_
          simp only [go_sem, seval, spcA_heavy, spcA_Copy, spcA_Chain, spcA_num, spcA_rSp, spcA_rCov, spcA_Sp, spcA_Cov, spcA_Cut, spcA_From, spcA_rCut, spcA_Next, spcA_Num, spcA_rNext, spcA_Eq, spcA_Txs, spcA_wakes, List.length_map, List.getElem?_map, en, Int.toNat_natCast]
          repeat with_reducible refine And.intro (by first | omega | (simp only [List.length_cons, List.length_append, List.length_nil, List.length_map, List.length_take, List.length_drop, List.length_set]; omega)) ?_
          try simp only [go_sem, seval, spcA_heavy, spcA_Copy, spcA_Chain, spcA_num, spcA_rSp, spcA_rCov, spcA_Sp, spcA_Cov, spcA_Cut, spcA_From, spcA_rCut, spcA_Next, spcA_Num, spcA_rNext, spcA_Eq, spcA_Txs, spcA_wakes, List.length_map, List.getElem?_map, en, Int.toNat_natCast]
          refine ex_call (by exact hN) ?_
          simp only [go_sem, seval, spcA_heavy, spcA_Copy, spcA_Chain, spcA_num, spcA_rSp, spcA_rCov, spcA_Sp, spcA_Cov, spcA_Cut, spcA_From, spcA_rCut, spcA_Next, spcA_Num, spcA_rNext, spcA_Eq, spcA_Txs, spcA_wakes, List.length_map, List.getElem?_map, en, Int.toNat_natCast]
          refine ex_call (by exact c_law14_num _) ?_
          simp only [go_sem, seval, spcA_heavy, spcA_Copy, spcA_Chain, spcA_num, spcA_rSp, spcA_rCov, spcA_Sp, spcA_Cov, spcA_Cut, spcA_From, spcA_rCut, spcA_Next, spcA_Num, spcA_rNext, spcA_Eq, spcA_Txs, spcA_wakes, bne_self_eq_false, cz, y0, y1, y2, y3]
          refine next (i + 1) _ (by omega) (by omega) ?_
          rw [← wi64_nat i (by omega)]
          simp only [ASt.keep, consIf, keepL, keepV, AV.isBot, List.contains_cons, List.contains_nil, Nat.reduceBEq, Bool.or_false, Bool.false_or, Bool.or_true, Bool.true_or, beq_self_eq_true, Bool.false_eq_true, ↓reduceIte, if_false, if_true]
        · simp only [go_sem, seval, spcA_heavy, spcA_Copy, spcA_Chain, spcA_num, spcA_rSp, spcA_rCov, spcA_Sp, spcA_Cov, spcA_Cut, spcA_From, spcA_rCut, spcA_Next, spcA_Num, spcA_rNext, spcA_Eq, spcA_Txs, spcA_wakes]
          refine ex_call (by exact c_law14_wakes) ?_
          simp only [go_sem, seval, spcA_heavy, spcA_Copy, spcA_Chain, spcA_num, spcA_rSp, spcA_rCov, spcA_Sp, spcA_Cov, spcA_Cut, spcA_From, spcA_rCut, spcA_Next, spcA_Num, spcA_rNext, spcA_Eq, spcA_Txs, spcA_wakes]
          refine finOne ?_ (fun _ e => by cases e)
          show resOf _ _ [.tmp 2] = _
          simp only [go_sem, seval, spcA_heavy, spcA_Copy, spcA_Chain, spcA_num, spcA_rSp, spcA_rCov, spcA_Sp, spcA_Cov, spcA_Cut, spcA_From, spcA_rCut, spcA_Next, spcA_Num, spcA_rNext, spcA_Eq, spcA_Txs, spcA_wakes]
    · have hcc := chainOk_iff.1 hch
      have hm := hcc.mounts
      have hall : p.c.all validTx = true := List.all_eq_true.2 fun t ht => by
        obtain ⟨i, hi⟩ := List.getElem?_of_mem ht
        exact hcc.valid i t hi
      have hrS := c_ref14_Spent p.c h.cl h.c hall
      rw [if_pos hcc.sum, decide_eq_true hcc.sum] at hrS
      have hrC := c_ref14_Covered p.c p.bal h.bal hcc h.c
      rw [hch] at hSp hCv
      simp only [go_sem, seval, spcA_heavy, spcA_Copy, spcA_Chain, spcA_num, spcA_rSp, spcA_rCov, spcA_Sp, spcA_Cov, spcA_Cut, spcA_From, spcA_rCut, spcA_Next, spcA_Num, spcA_rNext, spcA_Eq, spcA_Txs, spcA_wakes]
      refine ex_call (by exact hrS) ?_
      simp only [go_sem, seval, spcA_heavy, spcA_Copy, spcA_Chain, spcA_num, spcA_rSp, spcA_rCov, spcA_Sp, spcA_Cov, spcA_Cut, spcA_From, spcA_rCut, spcA_Next, spcA_Num, spcA_rNext, spcA_Eq, spcA_Txs, spcA_wakes, u]
      refine ex_call (by exact hrC) ?_
      simp only [go_sem, seval, spcA_heavy, spcA_Copy, spcA_Chain, spcA_num, spcA_rSp, spcA_rCov, spcA_Sp, spcA_Cov, spcA_Cut, spcA_From, spcA_rCut, spcA_Next, spcA_Num, spcA_rNext, spcA_Eq, spcA_Txs, spcA_wakes, u]
      refine ex_call (by exact hSp) ?_
      simp only [go_sem, seval, spcA_heavy, spcA_Copy, spcA_Chain, spcA_num, spcA_rSp, spcA_rCov, spcA_Sp, spcA_Cov, spcA_Cut, spcA_From, spcA_rCut, spcA_Next, spcA_Num, spcA_rNext, spcA_Eq, spcA_Txs, spcA_wakes, u]
      refine ex_call (by exact hCv) ?_
      simp only [go_sem, seval, spcA_heavy, spcA_Copy, spcA_Chain, spcA_num, spcA_rSp, spcA_rCov, spcA_Sp, spcA_Cov, spcA_Cut, spcA_From, spcA_rCut, spcA_Next, spcA_Num, spcA_rNext, spcA_Eq, spcA_Txs, spcA_wakes, u]
      refine ex_call (by exact c_law14_num _) ?_
      simp only [go_sem, seval, spcA_heavy, spcA_Copy, spcA_Chain, spcA_num, spcA_rSp, spcA_rCov, spcA_Sp, spcA_Cov, spcA_Cut, spcA_From, spcA_rCut, spcA_Next, spcA_Num, spcA_rNext, spcA_Eq, spcA_Txs, spcA_wakes, bne_self_eq_false]
      refine ex_call (by exact c_law14_num _) ?_
      simp only [go_sem, seval, spcA_heavy, spcA_Copy, spcA_Chain, spcA_num, spcA_rSp, spcA_rCov, spcA_Sp, spcA_Cov, spcA_Cut, spcA_From, spcA_rCut, spcA_Next, spcA_Num, spcA_rNext, spcA_Eq, spcA_Txs, spcA_wakes, bne_self_eq_false]
      refine ex_iter [1, 3, 4, 11] (fun i : Nat => ⟨[(1, .var 1 0), (3, .bool true), (4, .int .i64 0), (11, .int .i64 i)], [(1, [.sl false 21 (p.c.map TxD.av), .sl false 21 (p.l.map TxD.av), .sl false 1 (p.n.map (AV.int .i64)), .int .u64 (lim p.bal 0), .int .u64 (lim p.bal 1), .int .u64 (lim p.bal 2), .int .u64 (lim p.bal 3)])], []⟩) (fun i => i ≤ 12) (fun i => 12 - i) 0 ?_ ?_ ?_
      · simp only [ASt.keep, consIf, keepL, keepV, AV.isBot, List.contains_cons, List.contains_nil, Nat.reduceBEq, Bool.or_false, Bool.false_or, Bool.or_true, Bool.true_or, beq_self_eq_true, Bool.false_eq_true, ↓reduceIte, if_false, if_true]
        rfl
      · exact Nat.zero_le _
      · rintro m i hi next
        simp only [go_sem, seval, spcA_heavy, spcA_Copy, spcA_Chain, spcA_num, spcA_rSp, spcA_rCov, spcA_Sp, spcA_Cov, spcA_Cut, spcA_From, spcA_rCut, spcA_Next, spcA_Num, spcA_rNext, spcA_Eq, spcA_Txs, spcA_wakes, List.length_map]
        refine ex_joinB 83 (decide (i < p.n.length) && decide (i < 12)) ?_ ?_
        · repeat' (first | (refine ex_split (fun h => ?_) (fun h => ?_)) | (with_reducible refine And.intro (by omega) ?_) |
            (simp only [go_sem, seval, List.length_map]))
          all_goals (try simp only [ASt.mk.injEq, List.cons.injEq, Prod.mk.injEq, AV.bool.injEq, true_and, and_true, eq_self])
          all_goals first | (simp_all; done) | (simp_all; omega) | (rw [Bool.eq_iff_iff]; simp only [List.length_map, Bool.or_eq_true, Bool.and_eq_true, Bool.not_eq_true', Bool.not_eq_false', decide_eq_true_eq, decide_eq_false_iff_not, bne_iff_ne, beq_iff_eq, ne_eq, true_iff, iff_true, false_iff, iff_false, Bool.false_eq_true, not_false_eq_true, not_true_eq_false] at *; omega)
        simp only [go_sem, seval, spcA_heavy, spcA_Copy, spcA_Chain, spcA_num, spcA_rSp, spcA_rCov, spcA_Sp, spcA_Cov, spcA_Cut, spcA_From, spcA_rCut, spcA_Next, spcA_Num, spcA_rNext, spcA_Eq, spcA_Txs, spcA_wakes]
        refine ex_br (fun hc => ?_) (fun hc => ?_)
        · have hlt : i < p.n.length ∧ i < 12 := by simpa using hc
          obtain ⟨n0, en⟩ : ∃ n0, p.n[i]? = some n0 := ⟨_, List.getElem?_eq_getElem hlt.1⟩
          have hA := c_chain_CutT p.c n0 h.cl h.c
          have hB := c_chain_FromT p.c n0 h.cl h.c
          have hN := c_chain_NextG p.c n0 h.cl h.c
          rw [hch] at hA hB hN
          have hRC := c_ref14_Cut p.c n0 h.cl h.c
          rw [lows_eq hm, highs_eq hm] at hRC
          have hE1 := c_EqTxs (p.c.take (belowN p.c n0)) (p.c.take (belowN p.c n0)) (len_take h.cl) (len_take h.cl) (ok_take h.c) (ok_take h.c)
          have hE2 := c_EqTxs (p.c.drop (belowN p.c n0)) (p.c.drop (belowN p.c n0)) (len_drop h.cl) (len_drop h.cl) (ok_drop h.c) (ok_drop h.c)
          have hS1 := spoil_Txs (p.c.take (belowN p.c n0)) (ok_take h.c) (by rw [List.length_take]; omega)
          have hS2 := spoil_Txs (p.c.drop (belowN p.c n0)) (ok_drop h.c) (by rw [List.length_drop]; omega)
          have hE3 := c_EqTxs p.c p.c h.cl h.cl h.c h.c
          rw [decide_eq_true rfl] at hE1 hE2 hE3
          simp only [go_sem, seval, spcA_heavy, spcA_Copy, spcA_Chain, spcA_num, spcA_rSp, spcA_rCov, spcA_Sp, spcA_Cov, spcA_Cut, spcA_From, spcA_rCut, spcA_Next, spcA_Num, spcA_rNext, spcA_Eq, spcA_Txs, spcA_wakes]
          refine ex_call (by exact hcp) ?_
          simp only [go_sem, seval, spcA_heavy, spcA_Copy, spcA_Chain, spcA_num, spcA_rSp, spcA_rCov, spcA_Sp, spcA_Cov, spcA_Cut, spcA_From, spcA_rCut, spcA_Next, spcA_Num, spcA_rNext, spcA_Eq, spcA_Txs, spcA_wakes, List.length_map, List.getElem?_map, en, Int.toNat_natCast]
          repeat with_reducible refine And.intro (by first | omega | (simp only [List.length_cons, List.length_append, List.length_nil, List.length_map, List.length_take, List.length_drop, List.length_set]; omega)) ?_
          try simp only [go_sem, seval, spcA_heavy, spcA_Copy, spcA_Chain, spcA_num, spcA_rSp, spcA_rCov, spcA_Sp, spcA_Cov, spcA_Cut, spcA_From, spcA_rCut, spcA_Next, spcA_Num, spcA_rNext, spcA_Eq, spcA_Txs, spcA_wakes, List.length_map, List.getElem?_map, en, Int.toNat_natCast]
          refine ex_fork (.cons (dsl _ _ _) (.cons (.refl _) .nil)) (by exact hA) rfl rfl (fun z1 => ?_)
          simp only [go_sem, seval, spcA_heavy, spcA_Copy, spcA_Chain, spcA_num, spcA_rSp, spcA_rCov, spcA_Sp, spcA_Cov, spcA_Cut, spcA_From, spcA_rCut, spcA_Next, spcA_Num, spcA_rNext, spcA_Eq, spcA_Txs, spcA_wakes, ASt.stow, AV.stowT, AV.stowA, AV.stow, List.length_map, List.getElem?_map, en, Int.toNat_natCast]
          repeat with_reducible refine And.intro (by first | omega | (simp only [List.length_cons, List.length_append, List.length_nil, List.length_map, List.length_take, List.length_drop, List.length_set]; omega)) ?_
          try simp only [go_sem, seval, spcA_heavy, spcA_Copy, spcA_Chain, spcA_num, spcA_rSp, spcA_rCov, spcA_Sp, spcA_Cov, spcA_Cut, spcA_From, spcA_rCut, spcA_Next, spcA_Num, spcA_rNext, spcA_Eq, spcA_Txs, spcA_wakes, List.length_map, List.getElem?_map, en, Int.toNat_natCast]
          refine ex_fork (.cons (dsl _ _ _) (.cons (.refl _) .nil)) (by exact hB) rfl rfl (fun z2 => ?_)
          simp only [go_sem, seval, spcA_heavy, spcA_Copy, spcA_Chain, spcA_num, spcA_rSp, spcA_rCov, spcA_Sp, spcA_Cov, spcA_Cut, spcA_From, spcA_rCut, spcA_Next, spcA_Num, spcA_rNext, spcA_Eq, spcA_Txs, spcA_wakes, ASt.stow, AV.stowT, AV.stowA, AV.stow, List.length_map, List.getElem?_map, en, Int.toNat_natCast]
          refine ex_draw [] [] (.quiet 0 (.quiet 1 (.quiet 2 (.quiet 3 (.quiet 4 (.quiet 5 (.quiet 6 (.one 7 (.quiet 8 (.quiet 9 (.quiet 10 (.quiet 11 (.quiet 12 (.fin)))))))))))))) (by kernel_rfl) ?_
          simp only [go_sem, seval, spcA_heavy, spcA_Copy, spcA_Chain, spcA_num, spcA_rSp, spcA_rCov, spcA_Sp, spcA_Cov, spcA_Cut, spcA_From, spcA_rCut, spcA_Next, spcA_Num, spcA_rNext, spcA_Eq, spcA_Txs, spcA_wakes, List.length_map, List.getElem?_map, en, Int.toNat_natCast]
          repeat with_reducible refine And.intro (by first | omega | (simp only [List.length_cons, List.length_append, List.length_nil, List.length_map, List.length_take, List.length_drop, List.length_set]; omega)) ?_
          try simp only [go_sem, seval, spcA_heavy, spcA_Copy, spcA_Chain, spcA_num, spcA_rSp, spcA_rCov, spcA_Sp, spcA_Cov, spcA_Cut, spcA_From, spcA_rCut, spcA_Next, spcA_Num, spcA_rNext, spcA_Eq, spcA_Txs, spcA_wakes, List.length_map, List.getElem?_map, en, Int.toNat_natCast]
          refine ex_call (by exact hRC) ?_
          simp only [go_sem, seval, spcA_heavy, spcA_Copy, spcA_Chain, spcA_num, spcA_rSp, spcA_rCov, spcA_Sp, spcA_Cov, spcA_Cut, spcA_From, spcA_rCut, spcA_Next, spcA_Num, spcA_rNext, spcA_Eq, spcA_Txs, spcA_wakes, List.length_map, List.getElem?_map, en, Int.toNat_natCast]
          refine ex_call (by exact c_law14_num _) ?_
          simp only [go_sem, seval, spcA_heavy, spcA_Copy, spcA_Chain, spcA_num, spcA_rSp, spcA_rCov, spcA_Sp, spcA_Cov, spcA_Cut, spcA_From, spcA_rCut, spcA_Next, spcA_Num, spcA_rNext, spcA_Eq, spcA_Txs, spcA_wakes, bne_self_eq_false]
          refine ex_call (by exact c_law14_num _) ?_
          simp only [go_sem, seval, spcA_heavy, spcA_Copy, spcA_Chain, spcA_num, spcA_rSp, spcA_rCov, spcA_Sp, spcA_Cov, spcA_Cut, spcA_From, spcA_rCut, spcA_Next, spcA_Num, spcA_rNext, spcA_Eq, spcA_Txs, spcA_wakes, bne_self_eq_false]
          refine ex_ask z1 (.tail _ (.head _)) (.cons (.st (dulls_map _ true)) (.cons (.dull (dsl _ _ _) rfl) .nil)) (by exact hE1) rfl ?_
          simp only [go_sem, seval, spcA_heavy, spcA_Copy, spcA_Chain, spcA_num, spcA_rSp, spcA_rCov, spcA_Sp, spcA_Cov, spcA_Cut, spcA_From, spcA_rCut, spcA_Next, spcA_Num, spcA_rNext, spcA_Eq, spcA_Txs, spcA_wakes]
          refine ex_ask z2 (.head _) (.cons (.st (dulls_map _ true)) (.cons (.dull (dsl _ _ _) rfl) .nil)) (by exact hE2) rfl ?_
          simp only [go_sem, seval, spcA_heavy, spcA_Copy, spcA_Chain, spcA_num, spcA_rSp, spcA_rCov, spcA_Sp, spcA_Cov, spcA_Cut, spcA_From, spcA_rCut, spcA_Next, spcA_Num, spcA_rNext, spcA_Eq, spcA_Txs, spcA_wakes]
          refine ex_spoil z1 [z2] [] rfl rfl (.st _) (by exact hS1) ?_
          simp only [go_sem, seval, spcA_heavy, spcA_Copy, spcA_Chain, spcA_num, spcA_rSp, spcA_rCov, spcA_Sp, spcA_Cov, spcA_Cut, spcA_From, spcA_rCut, spcA_Next, spcA_Num, spcA_rNext, spcA_Eq, spcA_Txs, spcA_wakes, ASt.unstow]
          refine ex_spoil z2 [] [] rfl rfl (.st _) (by exact hS2) ?_
          simp only [go_sem, seval, spcA_heavy, spcA_Copy, spcA_Chain, spcA_num, spcA_rSp, spcA_rCov, spcA_Sp, spcA_Cov, spcA_Cut, spcA_From, spcA_rCut, spcA_Next, spcA_Num, spcA_rNext, spcA_Eq, spcA_Txs, spcA_wakes, ASt.unstow]
          refine ex_plain (.cons (dsl _ _ _) (.cons (.refl _) .nil)) (by exact hE3) ?_
          simp only [go_sem, seval, spcA_heavy, spcA_Copy, spcA_Chain, spcA_num, spcA_rSp, spcA_rCov, spcA_Sp, spcA_Cov, spcA_Cut, spcA_From, spcA_rCut, spcA_Next, spcA_Num, spcA_rNext, spcA_Eq, spcA_Txs, spcA_wakes]
          refine ex_draw [] [] (.quiet 0 (.quiet 1 (.quiet 2 (.quiet 3 (.quiet 4 (.quiet 5 (.quiet 6 (.one 7 (.quiet 8 (.quiet 9 (.quiet 10 (.quiet 11 (.quiet 12 (.fin)))))))))))))) (by kernel_rfl) ?_
          simp only [go_sem, seval, spcA_heavy, spcA_Copy, spcA_Chain, spcA_num, spcA_rSp, spcA_rCov, spcA_Sp, spcA_Cov, spcA_Cut, spcA_From, spcA_rCut, spcA_Next, spcA_Num, spcA_rNext, spcA_Eq, spcA_Txs, spcA_wakes, List.length_map, List.getElem?_map, en, Int.toNat_natCast]
          repeat with_reducible refine And.intro (by first | omega | (simp only [List.length_cons, List.length_append, List.length_nil, List.length_map, List.length_take, List.length_drop, List.length_set]; omega)) ?_
          try simp only [go_sem, seval, spcA_heavy, spcA_Copy, spcA_Chain, spcA_num, spcA_rSp, spcA_rCov, spcA_Sp, spcA_Cov, spcA_Cut, spcA_From, spcA_rCut, spcA_Next, spcA_Num, spcA_rNext, spcA_Eq, spcA_Txs, spcA_wakes, List.length_map, List.getElem?_map, en, Int.toNat_natCast]
          refine ex_call (by exact hN) ?_
          simp only [go_sem, seval, spcA_heavy, spcA_Copy, spcA_Chain, spcA_num, spcA_rSp, spcA_rCov, spcA_Sp, spcA_Cov, spcA_Cut, spcA_From, spcA_rCut, spcA_Next, spcA_Num, spcA_rNext, spcA_Eq, spcA_Txs, spcA_wakes, List.length_map, List.getElem?_map, en, Int.toNat_natCast]
          repeat with_reducible refine And.intro (by first | omega | (simp only [List.length_cons, List.length_append, List.length_nil, List.length_map, List.length_take, List.length_drop, List.length_set]; omega)) ?_
          try simp only [go_sem, seval, spcA_heavy, spcA_Copy, spcA_Chain, spcA_num, spcA_rSp, spcA_rCov, spcA_Sp, spcA_Cov, spcA_Cut, spcA_From, spcA_rCut, spcA_Next, spcA_Num, spcA_rNext, spcA_Eq, spcA_Txs, spcA_wakes, List.length_map, List.getElem?_map, en, Int.toNat_natCast]
          refine ex_call (by exact c_Num n0 1099511627776) ?_
          cases hb : (decide (0 ≤ n0) && decide (n0 ≤ 1099511627776))
          · have hno : ¬ (0 ≤ n0 ∧ n0 ≤ 1099511627776) := by simp at hb; omega
            rw [if_neg hno, if_neg hno]
            simp only [go_sem, seval, spcA_heavy, spcA_Copy, spcA_Chain, spcA_num, spcA_rSp, spcA_rCov, spcA_Sp, spcA_Cov, spcA_Cut, spcA_From, spcA_rCut, spcA_Next, spcA_Num, spcA_rNext, spcA_Eq, spcA_Txs, spcA_wakes]
            refine ex_call (by exact c_law14_num _) ?_
            simp only [go_sem, seval, spcA_heavy, spcA_Copy, spcA_Chain, spcA_num, spcA_rSp, spcA_rCov, spcA_Sp, spcA_Cov, spcA_Cut, spcA_From, spcA_rCut, spcA_Next, spcA_Num, spcA_rNext, spcA_Eq, spcA_Txs, spcA_wakes, bne_self_eq_false]
            refine next (i + 1) _ (by omega) (by omega) ?_
            rw [← wi64_nat i (by omega)]
            simp only [ASt.keep, consIf, keepL, keepV, AV.isBot, List.contains_cons, List.contains_nil, Nat.reduceBEq, Bool.or_false, Bool.false_or, Bool.or_true, Bool.true_or, beq_self_eq_true, Bool.false_eq_true, ↓reduceIte, if_false, if_true]
          · have hyes : 0 ≤ n0 ∧ n0 ≤ 1099511627776 := by simp at hb; exact hb
            have hrn := c_ref14_Next p.c n0 (chainOk_iff.1 hch)
            rw [if_pos hyes, if_pos hyes]
            simp only [go_sem, seval, spcA_heavy, spcA_Copy, spcA_Chain, spcA_num, spcA_rSp, spcA_rCov, spcA_Sp, spcA_Cov, spcA_Cut, spcA_From, spcA_rCut, spcA_Next, spcA_Num, spcA_rNext, spcA_Eq, spcA_Txs, spcA_wakes]
            refine ex_draw [] [] (.quiet 0 (.quiet 1 (.quiet 2 (.quiet 3 (.quiet 4 (.quiet 5 (.quiet 6 (.one 7 (.quiet 8 (.quiet 9 (.fin))))))))))) (by kernel_rfl) ?_
            simp only [go_sem, seval, spcA_heavy, spcA_Copy, spcA_Chain, spcA_num, spcA_rSp, spcA_rCov, spcA_Sp, spcA_Cov, spcA_Cut, spcA_From, spcA_rCut, spcA_Next, spcA_Num, spcA_rNext, spcA_Eq, spcA_Txs, spcA_wakes, List.length_map, List.getElem?_map, en, Int.toNat_natCast]
            repeat with_reducible refine And.intro (by first | omega | (simp only [List.length_cons, List.length_append, List.length_nil, List.length_map, List.length_take, List.length_drop, List.length_set]; omega)) ?_
            try simp only [go_sem, seval, spcA_heavy, spcA_Copy, spcA_Chain, spcA_num, spcA_rSp, spcA_rCov, spcA_Sp, spcA_Cov, spcA_Cut, spcA_From, spcA_rCut, spcA_Next, spcA_Num, spcA_rNext, spcA_Eq, spcA_Txs, spcA_wakes, List.length_map, List.getElem?_map, en, Int.toNat_natCast]
            refine ex_call (by exact hrn) ?_
            simp only [go_sem, seval, spcA_heavy, spcA_Copy, spcA_Chain, spcA_num, spcA_rSp, spcA_rCov, spcA_Sp, spcA_Cov, spcA_Cut, spcA_From, spcA_rCut, spcA_Next, spcA_Num, spcA_rNext, spcA_Eq, spcA_Txs, spcA_wakes]
            refine ex_call (by exact c_law14_num _) ?_
            simp only [go_sem, seval, spcA_heavy, spcA_Copy, spcA_Chain, spcA_num, spcA_rSp, spcA_rCov, spcA_Sp, spcA_Cov, spcA_Cut, spcA_From, spcA_rCut, spcA_Next, spcA_Num, spcA_rNext, spcA_Eq, spcA_Txs, spcA_wakes, bne_self_eq_false]
            refine next (i + 1) _ (by omega) (by omega) ?_
            rw [← wi64_nat i (by omega)]
            simp only [ASt.keep, consIf, keepL, keepV, AV.isBot, List.contains_cons, List.contains_nil, Nat.reduceBEq, Bool.or_false, Bool.false_or, Bool.or_true, Bool.true_or, beq_self_eq_true, Bool.false_eq_true, ↓reduceIte, if_false, if_true]
        · simp only [go_sem, seval, spcA_heavy, spcA_Copy, spcA_Chain, spcA_num, spcA_rSp, spcA_rCov, spcA_Sp, spcA_Cov, spcA_Cut, spcA_From, spcA_rCut, spcA_Next, spcA_Num, spcA_rNext, spcA_Eq, spcA_Txs, spcA_wakes]
          refine ex_call (by exact c_law14_wakes) ?_
          simp only [go_sem, seval, spcA_heavy, spcA_Copy, spcA_Chain, spcA_num, spcA_rSp, spcA_rCov, spcA_Sp, spcA_Cov, spcA_Cut, spcA_From, spcA_rCut, spcA_Next, spcA_Num, spcA_rNext, spcA_Eq, spcA_Txs, spcA_wakes]
          refine finOne ?_ (fun _ e => by cases e)
          show resOf _ _ [.tmp 2] = _
          simp only [go_sem, seval, spcA_heavy, spcA_Copy, spcA_Chain, spcA_num, spcA_rSp, spcA_rCov, spcA_Sp, spcA_Cov, spcA_Cut, spcA_From, spcA_rCut, spcA_Next, spcA_Num, spcA_rNext, spcA_Eq, spcA_Txs, spcA_wakes]
theorem law_ChainAsks (x : AV) (h : Ty ti 49 x) : Contract Try.prog 7 [x] (.bool true) := by
  obtain ⟨p, rfl, hp⟩ := ty_script h
  exact c_ChainAsks p hp
end Go.Proofs.Ytpepfhbfooeoeaa.VA
end
section
/- Two laws on chains. -/
end
