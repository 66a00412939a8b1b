/- Marks: what mark.Mark, mark.Take, mark.Text and the page's own answers do. MarkTells: the law's function answers true for every list of texts. Blobs: what blob.Hash, Fits, Gas and the page's own answers do. Transactions as data; what they cost. Which transactions may be, by the page; their costs; pairs. Copies of rows of marks and of texts. Transactions: copies, weights, plain ones. tarnlaw0.Txs, Limbo: they write over rows of transactions, and over nothing else. One item out of bytes, of new memory alone. tarnlaw0.Item writes over an item's rows, and over nothing else. Laws that write over what they were told: helps. ItemTakes: the law's function answers true. -/
import Derived.Test.YtdenldjlijoeoaaT1
import Derived.Test.YtdenldjlijoeoaaT2
import Derived.Test.YtdenldjlijoeoaaT3
import Derived.Test.YtdenldjlijoeoaaT4
import Derived.Test.YtdenldjlijoeoaaT5
import Derived.WalkKit
section
/- Marks: what mark.Mark, mark.Take, mark.Text and the page's own answers do. -/
namespace Go.Proofs.Ytdenldjlijoeoaa.VA
set_option maxRecDepth 10000
set_option linter.unusedSimpArgs false
set_option linter.unusedVariables false

def markStep (m : Int) (b : UInt8) : Int := IntKind.u64.wrap (IntKind.u64.wrap ((BitVec.ofInt 64 m ^^^ BitVec.ofInt 64 (IntKind.u64.wrap (b.toNat : Int))).toNat) * 1099511628211)
def markFrom' (m : Int) (s : List UInt8) : Int := s.foldl markStep m
def markOf (s : List UInt8) : Int := markFrom' 14695981039346656037 s

theorem mark_take (m : Int) (s : List UInt8) (i : Nat) (b : UInt8) (h : s[i]? = some b) : markFrom' m (s.take (i + 1)) = markStep (markFrom' m (s.take i)) b := by
  unfold markFrom'
  rw [List.take_add_one, h, List.foldl_append]
  rfl

theorem c_mark_Mark (s : List UInt8) (hs : s.length ≤ 9223372036854775806) : Contract Try.prog 77 [.str s] (.int .u64 (markOf s)) := by
  refine contract_of (C := cf 19 [0, 2, 3, 4, 6, 7, 8] (fun _ => [])) (cf_ok _ _ _) (fn := Try.f77) Try.func77 (by kernel_rfl) rfl (by kernel_rfl) (by simp [cf]) (plain1 (.str s)) (by decide) (noCell (by kernel_rfl)) ?_
  simp only [go_sem, ↓reduceIte, Nat.reduceLT, Nat.reduceLeDiff, Nat.reduceAdd, Nat.reduceSub, Nat.reduceMul, Nat.reduceEqDiff, Nat.reduceBEq, Nat.reduceMod, Nat.reduceDiv, Int.reduceToNat, reduceCtorEq, Int.reduceLT, Int.reduceLE, Int.reduceGT, Int.reduceGE, Int.reduceAdd, Int.reduceSub, Int.reduceMul, Int.reduceNeg, Int.reduceEq, Int.reduceNe, Int.reduceBNe, Int.reduceBEq, Int.reduceDiv]
  refine ex_iter [0, 3, 6, 7] (fun i : Nat => ⟨[(0, .str s), (3, .int .u64 (markFrom' 14695981039346656037 (s.take i))), (6, .int .i64 s.length), (7, .int .i64 i)], [], []⟩) (fun i => i ≤ s.length) (fun i => s.length - i) 0 ?_ ?_ ?_
  · simp only [go_sem, ↓reduceIte, Nat.reduceLT, Nat.reduceLeDiff, Nat.reduceAdd, Nat.reduceSub, Nat.reduceMul, Nat.reduceEqDiff, Nat.reduceBEq, Nat.reduceMod, Nat.reduceDiv, Int.reduceToNat, reduceCtorEq, Int.reduceLT, Int.reduceLE, Int.reduceGT, Int.reduceGE, Int.reduceAdd, Int.reduceSub, Int.reduceMul, Int.reduceNeg, Int.reduceEq, Int.reduceNe, Int.reduceBNe, Int.reduceBEq, Int.reduceDiv]
    rfl
  · exact Nat.zero_le _
  · intro n i hi next
    simp only [go_sem, ↓reduceIte, Nat.reduceLT, Nat.reduceLeDiff, Nat.reduceAdd, Nat.reduceSub, Nat.reduceMul, Nat.reduceEqDiff, Nat.reduceBEq, Nat.reduceMod, Nat.reduceDiv, Int.reduceToNat, reduceCtorEq, Int.reduceLT, Int.reduceLE, Int.reduceGT, Int.reduceGE, Int.reduceAdd, Int.reduceSub, Int.reduceMul, Int.reduceNeg, Int.reduceEq, Int.reduceNe, Int.reduceBNe, Int.reduceBEq, Int.reduceDiv]
    refine ex_br (fun h => ?_) (fun h => ?_)
    · have hlt : i < s.length := by simpa using h
      obtain ⟨b, hb⟩ : ∃ b, s[i]? = some b := ⟨_, List.getElem?_eq_getElem hlt⟩
      simp only [go_sem, ↓reduceIte, Nat.reduceLT, Nat.reduceLeDiff, Nat.reduceAdd, Nat.reduceSub, Nat.reduceMul, Nat.reduceEqDiff, Nat.reduceBEq, Nat.reduceMod, Nat.reduceDiv, Int.reduceToNat, reduceCtorEq, Int.reduceLT, Int.reduceLE, Int.reduceGT, Int.reduceGE, Int.reduceAdd, Int.reduceSub, Int.reduceMul, Int.reduceNeg, Int.reduceEq, Int.reduceNe, Int.reduceBNe, Int.reduceBEq, Int.reduceDiv, Int.toNat_natCast, hb]
      refine ⟨⟨by omega, by omega⟩, ?_⟩
      refine next (i + 1) _ (by omega) (by omega) ?_
      rw [mark_take _ _ _ _ hb, ← wi64_nat i (by omega)]
      simp only [ASt.keep, consIf, keepL, keepV, AV.isBot, List.contains_cons, List.contains_nil, Nat.reduceBEq, Bool.or_false, Bool.false_or, Bool.or_true, Bool.true_or, beq_self_eq_true, Bool.false_eq_true, ↓reduceIte, if_false, if_true]
      rfl
    · have hge : i = s.length := by simp at h; omega
      subst hge
      simp only [go_sem, ↓reduceIte, Nat.reduceLT, Nat.reduceLeDiff, Nat.reduceAdd, Nat.reduceSub, Nat.reduceMul, Nat.reduceEqDiff, Nat.reduceBEq, Nat.reduceMod, Nat.reduceDiv, Int.reduceToNat, reduceCtorEq, Int.reduceLT, Int.reduceLE, Int.reduceGT, Int.reduceGE, Int.reduceAdd, Int.reduceSub, Int.reduceMul, Int.reduceNeg, Int.reduceEq, Int.reduceNe, Int.reduceBNe, Int.reduceBEq, Int.reduceDiv]
      refine finOne ?_ (fun _ e => by cases e)
      show resOf _ _ [.tmp 2] = _
      simp only [go_sem, ↓reduceIte, Nat.reduceLT, Nat.reduceLeDiff, Nat.reduceAdd, Nat.reduceSub, Nat.reduceMul, Nat.reduceEqDiff, Nat.reduceBEq, Nat.reduceMod, Nat.reduceDiv, Int.reduceToNat, reduceCtorEq, Int.reduceLT, Int.reduceLE, Int.reduceGT, Int.reduceGE, Int.reduceAdd, Int.reduceSub, Int.reduceMul, Int.reduceNeg, Int.reduceEq, Int.reduceNe, Int.reduceBNe, Int.reduceBEq, Int.reduceDiv, List.take_length]
      rfl

theorem c_ref4_Mark (s : List UInt8) (hs : s.length ≤ 9223372036854775806) : Contract Try.prog 67 [.str s] (.int .u64 (markOf s)) := by
  refine contract_of (C := cf 19 [0, 2, 3, 4, 8] (fun _ => [])) (cf_ok _ _ _) (fn := Try.f67) Try.func67 (by kernel_rfl) rfl (by kernel_rfl) (by simp [cf]) (plain1 (.str s)) (by decide) (noCell (by kernel_rfl)) ?_
  simp only [go_sem, ↓reduceIte, Nat.reduceLT, Nat.reduceLeDiff, Nat.reduceAdd, Nat.reduceSub, Nat.reduceMul, Nat.reduceEqDiff, Nat.reduceBEq, Nat.reduceMod, Nat.reduceDiv, Int.reduceToNat, reduceCtorEq, Int.reduceLT, Int.reduceLE, Int.reduceGT, Int.reduceGE, Int.reduceAdd, Int.reduceSub, Int.reduceMul, Int.reduceNeg, Int.reduceEq, Int.reduceNe, Int.reduceBNe, Int.reduceBEq, Int.reduceDiv]
  refine ex_iter [0, 3, 4] (fun i : Nat => ⟨[(0, .str s), (3, .int .u64 (markFrom' 14695981039346656037 (s.take i))), (4, .int .i64 i)], [], []⟩) (fun i => i ≤ s.length) (fun i => s.length - i) 0 ?_ ?_ ?_
  · simp only [ASt.keep, consIf, keepL, keepV, AV.isBot, List.contains_cons, List.contains_nil, Nat.reduceBEq, Bool.or_false, Bool.false_or, Bool.or_true, Bool.true_or, beq_self_eq_true, Bool.false_eq_true, ↓reduceIte, if_false, if_true]
    rfl
  · exact Nat.zero_le _
  · intro n i hi next
    simp only [go_sem, ↓reduceIte, Nat.reduceLT, Nat.reduceLeDiff, Nat.reduceAdd, Nat.reduceSub, Nat.reduceMul, Nat.reduceEqDiff, Nat.reduceBEq, Nat.reduceMod, Nat.reduceDiv, Int.reduceToNat, reduceCtorEq, Int.reduceLT, Int.reduceLE, Int.reduceGT, Int.reduceGE, Int.reduceAdd, Int.reduceSub, Int.reduceMul, Int.reduceNeg, Int.reduceEq, Int.reduceNe, Int.reduceBNe, Int.reduceBEq, Int.reduceDiv]
    refine ex_br (fun h => ?_) (fun h => ?_)
    · have hlt : i < s.length := by simpa using h
      obtain ⟨b, hb⟩ : ∃ b, s[i]? = some b := ⟨_, List.getElem?_eq_getElem hlt⟩
      simp only [go_sem, ↓reduceIte, Nat.reduceLT, Nat.reduceLeDiff, Nat.reduceAdd, Nat.reduceSub, Nat.reduceMul, Nat.reduceEqDiff, Nat.reduceBEq, Nat.reduceMod, Nat.reduceDiv, Int.reduceToNat, reduceCtorEq, Int.reduceLT, Int.reduceLE, Int.reduceGT, Int.reduceGE, Int.reduceAdd, Int.reduceSub, Int.reduceMul, Int.reduceNeg, Int.reduceEq, Int.reduceNe, Int.reduceBNe, Int.reduceBEq, Int.reduceDiv, Int.toNat_natCast, hb]
      refine ⟨⟨by omega, by omega⟩, ?_⟩
      refine next (i + 1) _ (by omega) (by omega) ?_
      rw [mark_take _ _ _ _ hb, ← wi64_nat i (by omega)]
      simp only [ASt.keep, consIf, keepL, keepV, AV.isBot, List.contains_cons, List.contains_nil, Nat.reduceBEq, Bool.or_false, Bool.false_or, Bool.or_true, Bool.true_or, beq_self_eq_true, Bool.false_eq_true, ↓reduceIte, if_false, if_true]
      rfl
    · have hge : i = s.length := by simp at h; omega
      subst hge
      simp only [go_sem, ↓reduceIte, Nat.reduceLT, Nat.reduceLeDiff, Nat.reduceAdd, Nat.reduceSub, Nat.reduceMul, Nat.reduceEqDiff, Nat.reduceBEq, Nat.reduceMod, Nat.reduceDiv, Int.reduceToNat, reduceCtorEq, Int.reduceLT, Int.reduceLE, Int.reduceGT, Int.reduceGE, Int.reduceAdd, Int.reduceSub, Int.reduceMul, Int.reduceNeg, Int.reduceEq, Int.reduceNe, Int.reduceBNe, Int.reduceBEq, Int.reduceDiv]
      refine finOne ?_ (fun _ e => by cases e)
      show resOf _ _ [.tmp 2] = _
      simp only [go_sem, ↓reduceIte, Nat.reduceLT, Nat.reduceLeDiff, Nat.reduceAdd, Nat.reduceSub, Nat.reduceMul, Nat.reduceEqDiff, Nat.reduceBEq, Nat.reduceMod, Nat.reduceDiv, Int.reduceToNat, reduceCtorEq, Int.reduceLT, Int.reduceLE, Int.reduceGT, Int.reduceGE, Int.reduceAdd, Int.reduceSub, Int.reduceMul, Int.reduceNeg, Int.reduceEq, Int.reduceNe, Int.reduceBNe, Int.reduceBEq, Int.reduceDiv, List.take_length]
      rfl

def takeStep (m : Int) (b : UInt8) : Int := IntKind.u64.wrap ((BitVec.ofInt IntKind.u64.bits (IntKind.u64.wrap (m * 2 ^ (min 8 IntKind.u64.bits))) ||| BitVec.ofInt IntKind.u64.bits (IntKind.u64.wrap (b.toNat : Int))).toNat)
def takeOf (s : List UInt8) : Int × Bool := if s.length = 8 then (s.foldl takeStep 0, true) else (0, false)
theorem eight {α : Type} {s : List α} (h : s.length = 8) : ∃ a b c d e f g i, s = [a, b, c, d, e, f, g, i] := by
  match s, h with
  | [a, b, c, d, e, f, g, i], _ => exact ⟨a, b, c, d, e, f, g, i, rfl⟩

theorem c_mark_Take (s : List UInt8) : Contract Try.prog 43 [.str s] (.tup [.int .u64 (takeOf s).1, .bool (takeOf s).2]) := by
  refine contract_of (C := cf 23 [0, 2, 3, 4, 5, 8, 10, 11, 12] (fun _ => [])) (cf_ok _ _ _) (fn := Try.f43) Try.func43 (by kernel_rfl) rfl (by kernel_rfl) (by simp [cf]) (plain1 (.str s)) (by decide) (noCell (by kernel_rfl)) ?_
  simp only [go_sem, ↓reduceIte, Nat.reduceLT, Nat.reduceLeDiff, Nat.reduceAdd, Nat.reduceSub, Nat.reduceMul, Nat.reduceEqDiff, Nat.reduceBEq, Nat.reduceMod, Nat.reduceDiv, Int.reduceToNat, reduceCtorEq, Int.reduceLT, Int.reduceLE, Int.reduceGT, Int.reduceGE, Int.reduceAdd, Int.reduceSub, Int.reduceMul, Int.reduceNeg, Int.reduceEq, Int.reduceNe, Int.reduceBNe, Int.reduceBEq, Int.reduceDiv]
  refine ex_br (fun h => ?_) (fun h => ?_)
  · have hne : s.length ≠ 8 := by intro e; rw [e] at h; exact absurd h (by decide)
    simp only [go_sem, ↓reduceIte, Nat.reduceLT, Nat.reduceLeDiff, Nat.reduceAdd, Nat.reduceSub, Nat.reduceMul, Nat.reduceEqDiff, Nat.reduceBEq, Nat.reduceMod, Nat.reduceDiv, Int.reduceToNat, reduceCtorEq, Int.reduceLT, Int.reduceLE, Int.reduceGT, Int.reduceGE, Int.reduceAdd, Int.reduceSub, Int.reduceMul, Int.reduceNeg, Int.reduceEq, Int.reduceNe, Int.reduceBNe, Int.reduceBEq, Int.reduceDiv]
    refine finTup ?_
    show resOf _ _ [.tmp 2, .tmp 3] = _
    simp only [go_sem, ↓reduceIte, Nat.reduceLT, Nat.reduceLeDiff, Nat.reduceAdd, Nat.reduceSub, Nat.reduceMul, Nat.reduceEqDiff, Nat.reduceBEq, Nat.reduceMod, Nat.reduceDiv, Int.reduceToNat, reduceCtorEq, Int.reduceLT, Int.reduceLE, Int.reduceGT, Int.reduceGE, Int.reduceAdd, Int.reduceSub, Int.reduceMul, Int.reduceNeg, Int.reduceEq, Int.reduceNe, Int.reduceBNe, Int.reduceBEq, Int.reduceDiv, takeOf, if_neg hne]
  · have he : s.length = 8 := by simp at h; omega
    obtain ⟨a, b, c, d, e, f, g, i, rfl⟩ := eight he
    simp only [go_sem, ↓reduceIte, Nat.reduceLT, Nat.reduceLeDiff, Nat.reduceAdd, Nat.reduceSub, Nat.reduceMul, Nat.reduceEqDiff, Nat.reduceBEq, Nat.reduceMod, Nat.reduceDiv, Int.reduceToNat, reduceCtorEq, Int.reduceLT, Int.reduceLE, Int.reduceGT, Int.reduceGE, Int.reduceAdd, Int.reduceSub, Int.reduceMul, Int.reduceNeg, Int.reduceEq, Int.reduceNe, Int.reduceBNe, Int.reduceBEq, Int.reduceDiv]
    refine ex_loop [0, 4, 10, 11] 9 ?_
    simp only [go_sem, ↓reduceIte, Nat.reduceLT, Nat.reduceLeDiff, Nat.reduceAdd, Nat.reduceSub, Nat.reduceMul, Nat.reduceEqDiff, Nat.reduceBEq, Nat.reduceMod, Nat.reduceDiv, Int.reduceToNat, reduceCtorEq, Int.reduceLT, Int.reduceLE, Int.reduceGT, Int.reduceGE, Int.reduceAdd, Int.reduceSub, Int.reduceMul, Int.reduceNeg, Int.reduceEq, Int.reduceNe, Int.reduceBNe, Int.reduceBEq, Int.reduceDiv, ex_round, Int.cast_ofNat_Int, wi64]
    refine finTup ?_
    show resOf _ _ [.tmp 2, .tmp 3] = _
    simp only [go_sem, ↓reduceIte, Nat.reduceLT, Nat.reduceLeDiff, Nat.reduceAdd, Nat.reduceSub, Nat.reduceMul, Nat.reduceEqDiff, Nat.reduceBEq, Nat.reduceMod, Nat.reduceDiv, Int.reduceToNat, reduceCtorEq, Int.reduceLT, Int.reduceLE, Int.reduceGT, Int.reduceGE, Int.reduceAdd, Int.reduceSub, Int.reduceMul, Int.reduceNeg, Int.reduceEq, Int.reduceNe, Int.reduceBNe, Int.reduceBEq, Int.reduceDiv]
    rfl

theorem c_ref4_TakeMark (s : List UInt8) : Contract Try.prog 31 [.str s] (.tup [.int .u64 (takeOf s).1, .bool (takeOf s).2]) := by
  refine contract_of (C := cf 21 [0, 2, 3, 4, 5, 8, 10] (fun _ => [])) (cf_ok _ _ _) (fn := Try.f31) Try.func31 (by kernel_rfl) rfl (by kernel_rfl) (by simp [cf]) (plain1 (.str s)) (by decide) (noCell (by kernel_rfl)) ?_
  simp only [go_sem, ↓reduceIte, Nat.reduceLT, Nat.reduceLeDiff, Nat.reduceAdd, Nat.reduceSub, Nat.reduceMul, Nat.reduceEqDiff, Nat.reduceBEq, Nat.reduceMod, Nat.reduceDiv, Int.reduceToNat, reduceCtorEq, Int.reduceLT, Int.reduceLE, Int.reduceGT, Int.reduceGE, Int.reduceAdd, Int.reduceSub, Int.reduceMul, Int.reduceNeg, Int.reduceEq, Int.reduceNe, Int.reduceBNe, Int.reduceBEq, Int.reduceDiv]
  refine ex_br (fun h => ?_) (fun h => ?_)
  · have hne : s.length ≠ 8 := by intro e; rw [e] at h; exact absurd h (by decide)
    simp only [go_sem, ↓reduceIte, Nat.reduceLT, Nat.reduceLeDiff, Nat.reduceAdd, Nat.reduceSub, Nat.reduceMul, Nat.reduceEqDiff, Nat.reduceBEq, Nat.reduceMod, Nat.reduceDiv, Int.reduceToNat, reduceCtorEq, Int.reduceLT, Int.reduceLE, Int.reduceGT, Int.reduceGE, Int.reduceAdd, Int.reduceSub, Int.reduceMul, Int.reduceNeg, Int.reduceEq, Int.reduceNe, Int.reduceBNe, Int.reduceBEq, Int.reduceDiv]
    refine finTup ?_
    show resOf _ _ [.tmp 2, .tmp 3] = _
    simp only [go_sem, ↓reduceIte, Nat.reduceLT, Nat.reduceLeDiff, Nat.reduceAdd, Nat.reduceSub, Nat.reduceMul, Nat.reduceEqDiff, Nat.reduceBEq, Nat.reduceMod, Nat.reduceDiv, Int.reduceToNat, reduceCtorEq, Int.reduceLT, Int.reduceLE, Int.reduceGT, Int.reduceGE, Int.reduceAdd, Int.reduceSub, Int.reduceMul, Int.reduceNeg, Int.reduceEq, Int.reduceNe, Int.reduceBNe, Int.reduceBEq, Int.reduceDiv, takeOf, if_neg hne]
  · have he : s.length = 8 := by simp at h; omega
    obtain ⟨a, b, c, d, e, f, g, i, rfl⟩ := eight he
    simp only [go_sem, ↓reduceIte, Nat.reduceLT, Nat.reduceLeDiff, Nat.reduceAdd, Nat.reduceSub, Nat.reduceMul, Nat.reduceEqDiff, Nat.reduceBEq, Nat.reduceMod, Nat.reduceDiv, Int.reduceToNat, reduceCtorEq, Int.reduceLT, Int.reduceLE, Int.reduceGT, Int.reduceGE, Int.reduceAdd, Int.reduceSub, Int.reduceMul, Int.reduceNeg, Int.reduceEq, Int.reduceNe, Int.reduceBNe, Int.reduceBEq, Int.reduceDiv]
    refine ex_loop [0, 4, 5] 9 ?_
    simp only [go_sem, ↓reduceIte, Nat.reduceLT, Nat.reduceLeDiff, Nat.reduceAdd, Nat.reduceSub, Nat.reduceMul, Nat.reduceEqDiff, Nat.reduceBEq, Nat.reduceMod, Nat.reduceDiv, Int.reduceToNat, reduceCtorEq, Int.reduceLT, Int.reduceLE, Int.reduceGT, Int.reduceGE, Int.reduceAdd, Int.reduceSub, Int.reduceMul, Int.reduceNeg, Int.reduceEq, Int.reduceNe, Int.reduceBNe, Int.reduceBEq, Int.reduceDiv, ex_round, Int.cast_ofNat_Int, wi64]
    refine finTup ?_
    show resOf _ _ [.tmp 2, .tmp 3] = _
    simp only [go_sem, ↓reduceIte, Nat.reduceLT, Nat.reduceLeDiff, Nat.reduceAdd, Nat.reduceSub, Nat.reduceMul, Nat.reduceEqDiff, Nat.reduceBEq, Nat.reduceMod, Nat.reduceDiv, Int.reduceToNat, reduceCtorEq, Int.reduceLT, Int.reduceLE, Int.reduceGT, Int.reduceGE, Int.reduceAdd, Int.reduceSub, Int.reduceMul, Int.reduceNeg, Int.reduceEq, Int.reduceNe, Int.reduceBNe, Int.reduceBEq, Int.reduceDiv]
    rfl

def byteAt (m : Int) (k : Int) : UInt8 := UInt8.ofNat (IntKind.u8.wrap (m.fdiv (2 ^ (min k.toNat IntKind.u64.bits)))).toNat
def textOf (m : Int) : List UInt8 := [byteAt m 56, byteAt m 48, byteAt m 40, byteAt m 32, byteAt m 24, byteAt m 16, byteAt m 8, byteAt m 0]

theorem c_mark_Text (m : Int) : Contract Try.prog 45 [.int .u64 m] (.str (textOf m)) := by
  refine contract_of (C := cf 19 [0, 2, 3, 4, 5, 6] (fun _ => [])) (cf_ok _ _ _) (fn := Try.f45) Try.func45 (by kernel_rfl) rfl (by kernel_rfl) (by simp [cf]) (plain1 (.int _ m)) (by decide) (noCell (by kernel_rfl)) ?_
  simp only [go_sem, ↓reduceIte, Nat.reduceLT, Nat.reduceLeDiff, Nat.reduceAdd, Nat.reduceSub, Nat.reduceMul, Nat.reduceEqDiff, Nat.reduceBEq, Nat.reduceMod, Nat.reduceDiv, Int.reduceToNat, reduceCtorEq, Int.reduceLT, Int.reduceLE, Int.reduceGT, Int.reduceGE, Int.reduceAdd, Int.reduceSub, Int.reduceMul, Int.reduceNeg, Int.reduceEq, Int.reduceNe, Int.reduceBNe, Int.reduceBEq, Int.reduceDiv]
  refine ex_loop [0, 3, 5] 9 ?_
  simp only [go_sem, ↓reduceIte, Nat.reduceLT, Nat.reduceLeDiff, Nat.reduceAdd, Nat.reduceSub, Nat.reduceMul, Nat.reduceEqDiff, Nat.reduceBEq, Nat.reduceMod, Nat.reduceDiv, Int.reduceToNat, reduceCtorEq, Int.reduceLT, Int.reduceLE, Int.reduceGT, Int.reduceGE, Int.reduceAdd, Int.reduceSub, Int.reduceMul, Int.reduceNeg, Int.reduceEq, Int.reduceNe, Int.reduceBNe, Int.reduceBEq, Int.reduceDiv, ex_round, Int.cast_ofNat_Int, wi64]
  refine finOne ?_ (fun _ e => by cases e)
  show resOf _ _ [.tmp 2] = _
  simp only [go_sem, ↓reduceIte, Nat.reduceLT, Nat.reduceLeDiff, Nat.reduceAdd, Nat.reduceSub, Nat.reduceMul, Nat.reduceEqDiff, Nat.reduceBEq, Nat.reduceMod, Nat.reduceDiv, Int.reduceToNat, reduceCtorEq, Int.reduceLT, Int.reduceLE, Int.reduceGT, Int.reduceGE, Int.reduceAdd, Int.reduceSub, Int.reduceMul, Int.reduceNeg, Int.reduceEq, Int.reduceNe, Int.reduceBNe, Int.reduceBEq, Int.reduceDiv]
  rfl

end Go.Proofs.Ytdenldjlijoeoaa.VA
end
section
/- MarkTells: the law's function answers true for every list of texts. -/
namespace Go.Proofs.Ytdenldjlijoeoaa.VA
set_option maxRecDepth 10000
set_option linter.unusedSimpArgs false
set_option linter.unusedVariables false

theorem takeStep_nat (m : Nat) (b : UInt8) (hm : m < 72057594037927936) : takeStep (m : Int) b = ((m * 256 + b.toNat : Nat) : Int) := by
  have hb : b.toNat < 256 := b.toNat_lt
  have h8 : (2 : Int) ^ (min 8 IntKind.u64.bits) = 256 := by decide
  unfold takeStep
  rw [h8, wu64 (x := (m : Int) * 256) (by omega) (by omega), wu64 (x := (b.toNat : Int)) (by omega) (by omega)]
  have e1 : ((m : Int) * 256) = ((m * 256 : Nat) : Int) := by simp
  rw [e1, show IntKind.u64.bits = 64 from rfl, ofInt_nat, ofInt_nat, BitVec.toNat_or]
  have e2 : (BitVec.ofNat 64 (m * 256)).toNat = m * 256 := by rw [BitVec.toNat_ofNat]; omega
  have e3 : (BitVec.ofNat 64 b.toNat).toNat = b.toNat := by rw [BitVec.toNat_ofNat]; omega
  rw [e2, e3]
  have e4 : m * 256 ||| b.toNat = m * 256 + b.toNat := by
    have := Nat.two_pow_add_eq_or_of_lt (i := 8) hb m
    rw [Nat.mul_comm m 256]
    exact this.symm
  rw [e4, wu64 (by omega) (by omega)]
theorem byteAt_nat (m : Nat) (k j : Nat) (hk : k ≤ 64) (hj : 2 ^ k = j) : (byteAt (m : Int) (k : Int)).toNat = m / j % 256 := by
  unfold byteAt
  have e0 : min ((k : Int)).toNat IntKind.u64.bits = k := by rw [Int.toNat_natCast]; exact Nat.min_eq_left hk
  rw [e0]
  have e1 : ((m : Int)).fdiv (2 ^ k) = ((m / j : Nat) : Int) := by
    rw [← hj, Int.fdiv_eq_ediv_of_nonneg _ (by exact Int.le_of_lt (Int.pow_pos (by decide)))]
    simp
  rw [e1, IntKind.wrap_u8]
  have e2 : (((m / j : Nat) : Int) % 256).toNat = m / j % 256 := by omega
  rw [e2]
  simp
theorem take_step (q : Nat) (hq : q < 18446744073709551616) (b : UInt8) (hb : b.toNat = q % 256) (p : Nat) (hp : p = q / 256) : takeStep (p : Int) b = (q : Int) := by
  subst hp
  rw [takeStep_nat _ _ (by omega), hb]
  congr 1
  omega
theorem take_text (m : Nat) (hm : m < 18446744073709551616) : takeOf (textOf (m : Int)) = ((m : Int), true) := by
  unfold takeOf textOf
  rw [if_pos (show [byteAt (m : Int) 56, byteAt m 48, byteAt m 40, byteAt m 32, byteAt m 24, byteAt m 16, byteAt m 8, byteAt m 0].length = 8 from rfl)]
  simp only [List.foldl_cons, List.foldl_nil]
  have lt : ∀ k, m / k < 18446744073709551616 := fun k => Nat.lt_of_le_of_lt (Nat.div_le_self m k) hm
  have dd : ∀ k, m / (k * 256) = m / k / 256 := fun k => (Nat.div_div_eq_div_mul m k 256).symm
  have s7 := take_step (m / 72057594037927936) (lt _) (byteAt m 56) (byteAt_nat m 56 _ (by omega) (by decide)) 0 (by omega)
  have s6 := take_step (m / 281474976710656) (lt _) (byteAt m 48) (byteAt_nat m 48 _ (by omega) (by decide)) (m / 72057594037927936) (dd 281474976710656)
  have s5 := take_step (m / 1099511627776) (lt _) (byteAt m 40) (byteAt_nat m 40 _ (by omega) (by decide)) (m / 281474976710656) (dd 1099511627776)
  have s4 := take_step (m / 4294967296) (lt _) (byteAt m 32) (byteAt_nat m 32 _ (by omega) (by decide)) (m / 1099511627776) (dd 4294967296)
  have s3 := take_step (m / 16777216) (lt _) (byteAt m 24) (byteAt_nat m 24 _ (by omega) (by decide)) (m / 4294967296) (dd 16777216)
  have s2 := take_step (m / 65536) (lt _) (byteAt m 16) (byteAt_nat m 16 _ (by omega) (by decide)) (m / 16777216) (dd 65536)
  have s1 := take_step (m / 256) (lt _) (byteAt m 8) (byteAt_nat m 8 _ (by omega) (by decide)) (m / 65536) (dd 256)
  have s0 := take_step m hm (byteAt m 0) (by rw [show (0 : Int) = ((0 : Nat) : Int) from rfl, byteAt_nat m 0 1 (by omega) (by decide), Nat.div_one]) (m / 256) rfl
  rw [show takeStep 0 (byteAt (m : Int) 56) = takeStep ((0 : Nat) : Int) (byteAt (m : Int) 56) from rfl, s7, s6, s5, s4, s3, s2, s1, s0]

theorem markFrom_range (s : List UInt8) : ∀ m : Int, 0 ≤ m → m < 18446744073709551616 → 0 ≤ markFrom' m s ∧ markFrom' m s < 18446744073709551616 := by
  induction s with
  | nil => intro m h1 h2; exact ⟨h1, h2⟩
  | cons b s ih => intro m h1 h2; exact ih _ (u64_range _).1 (u64_range _).2
theorem take_text_mark (s : List UInt8) : takeOf (textOf (markOf s)) = (markOf s, true) := by
  obtain ⟨h1, h2⟩ := markFrom_range s 14695981039346656037 (by decide) (by decide)
  have := take_text (markOf s).toNat (by unfold markOf; omega)
  have e : ((markOf s).toNat : Int) = markOf s := Int.toNat_of_nonneg h1
  rw [e] at this
  exact this
end Go.Proofs.Ytdenldjlijoeoaa.VA
end
section
/- Blobs: what blob.Hash, Fits, Gas and the page's own answers do. -/
namespace Go.Proofs.Ytdenldjlijoeoaa.VA
set_option maxRecDepth 10000
set_option linter.unusedSimpArgs false
set_option linter.unusedVariables false
set_option maxHeartbeats 4000000

def hashOf (s : List UInt8) : Int := markOf ([98, 108, 111, 98] ++ s)
theorem c_ref4_Hash (s : List UInt8) (hs : s.length ≤ 9223372036854775800) : Contract Try.prog 54 [.str s] (.int .u64 (hashOf s)) := by
  refine contract_of (C := cf 6 [0, 2] (fun _ => [])) (cf_ok _ _ _) (fn := Try.f54) Try.func54 (by kernel_rfl) rfl (by kernel_rfl) (by simp [cf]) (plain1 (.str s)) (by decide) (noCell (by kernel_rfl)) ?_
  simp only [go_sem, seval]
  refine ⟨by omega, ?_⟩
  refine ex_call (c_ref4_Mark _ (by simp only [List.length_cons]; omega)) ?_
  simp only [go_sem, seval]
  refine finOne ?_ (fun _ e => by cases e)
  show resOf _ _ [.tmp 2] = _
  simp only [go_sem, seval]
  rfl

theorem c_blob_Hash (s : List UInt8) (hs : s.length ≤ 9223372036854775800) : Contract Try.prog 70 [.str s] (.tup [.int .u64 (if s.length ≤ 64 then hashOf s else 0), .int .i64 (if s.length ≤ 64 then 0 else 2)]) := by
  refine contract_of (C := cf 10 [0, 2, 3, 6] (fun _ => [])) (cf_ok _ _ _) (fn := Try.f70) Try.func70 (by kernel_rfl) rfl (by kernel_rfl) (by simp [cf]) (plain1 (.str s)) (by decide) (noCell (by kernel_rfl)) ?_
  simp only [go_sem, seval]
  refine ex_br (fun h => ?_) (fun h => ?_)
  · have h : ¬ s.length ≤ 64 := by simp at h; omega
    rw [if_neg h, if_neg h]
    simp only [go_sem, seval]
    refine finTup ?_
    show resOf _ _ [.tmp 2, .tmp 3] = _
    simp only [go_sem, seval]
  · have h : s.length ≤ 64 := by simp at h; omega
    rw [if_pos h, if_pos h]
    simp only [go_sem, seval]
    refine ⟨by omega, ?_⟩
    refine ex_call (c_mark_Mark _ (by simp only [List.length_cons]; omega)) ?_
    simp only [go_sem, seval]
    refine finTup ?_
    show resOf _ _ [.tmp 2, .tmp 3] = _
    simp only [go_sem, seval]
    rfl

def gasOf (n : Int) : Int := if n < 1 ∨ n > 4 then 0 else n * 131072
def gasErr (n : Int) : Int := if n < 1 ∨ n > 4 then 1 else 0
theorem c_blob_Gas (n : Int) : Contract Try.prog 71 [.int .i64 n] (.tup [.int .i64 (gasOf n), .int .i64 (gasErr n)]) := by
  refine contract_of (C := cf 12 [0, 2, 3, 9] (fun _ => [])) (cf_ok _ _ _) (fn := Try.f71) Try.func71 (by kernel_rfl) rfl (by kernel_rfl) (by simp [cf]) (plain1 (.int _ n)) (by decide) (noCell (by kernel_rfl)) ?_
  unfold gasOf gasErr
  simp only [go_sem, seval]
  refine ex_joinB 9 (decide (n < 1) || decide (n > 4)) ?_ ?_
  · repeat' (first | (refine ex_split (fun h => ?_) (fun h => ?_)) | (with_reducible refine And.intro (by omega) ?_) |
      (simp only [go_sem, seval]))
    all_goals (try simp only [ASt.mk.injEq, List.cons.injEq, Prod.mk.injEq, AV.bool.injEq, true_and, and_true, eq_self])
    all_goals first | (simp_all; done) | (simp_all; omega) | (rw [Bool.eq_iff_iff]; simp only [List.length_map, Bool.or_eq_true, Bool.and_eq_true, Bool.not_eq_true', Bool.not_eq_false', decide_eq_true_eq, decide_eq_false_iff_not, bne_iff_ne, beq_iff_eq, ne_eq, true_iff, iff_true, false_iff, iff_false, Bool.false_eq_true, not_false_eq_true, not_true_eq_false] at *; omega)
  refine ex_br (fun h => ?_) (fun h => ?_)
  · have h : n < 1 ∨ n > 4 := by simpa using h
    rw [if_pos h, if_pos h]
    simp only [go_sem, seval]
    refine finTup ?_
    show resOf _ _ [.tmp 2, .tmp 3] = _
    simp only [go_sem, seval]
  · have h : ¬ (n < 1 ∨ n > 4) := by simpa using h
    rw [if_neg h, if_neg h]
    simp only [go_sem, seval]
    refine finTup ?_
    show resOf _ _ [.tmp 2, .tmp 3] = _
    simp only [go_sem, seval]
    rw [wi64 (by omega) (by omega)]

/-- What the hashes of blobs, one by one, are unlike. -/
def unlike : List Int → List (List UInt8) → Bool
  | h :: hs, b :: bs => (hashOf b != h) || unlike hs bs
  | _, _ => false
theorem unlike_take : ∀ (hs : List Int) (bs : List (List UInt8)) (i : Nat) (h : Int) (b : List UInt8), hs[i]? = some h → bs[i]? = some b → unlike (hs.take (i + 1)) (bs.take (i + 1)) = (unlike (hs.take i) (bs.take i) || hashOf b != h)
  | [], _, i, h, b, e, _ => by cases e
  | _ :: _, [], i, h, b, _, e => by cases e
  | x :: hs, y :: bs, 0, h, b, e1, e2 => by
    simp only [List.getElem?_cons_zero, Option.some.injEq] at e1 e2
    subst e1; subst e2
    simp [unlike]
  | x :: hs, y :: bs, i + 1, h, b, e1, e2 => by
    simp only [List.getElem?_cons_succ] at e1 e2
    have ih := unlike_take hs bs i h b e1 e2
    simp only [List.take_succ_cons, unlike] at ih ⊢
    rw [ih, Bool.or_assoc]
theorem unlike_of : ∀ {hs : List Int} {bs : List (List UInt8)} {i : Nat}, unlike (hs.take i) (bs.take i) = true → unlike hs bs = true
  | [], _, i, h => by simp [unlike] at h
  | _ :: _, [], i, h => by simp [unlike] at h
  | x :: hs, y :: bs, 0, h => by simp [unlike] at h
  | x :: hs, y :: bs, i + 1, h => by
    simp only [List.take_succ_cons, unlike, Bool.or_eq_true] at h ⊢
    rcases h with h | h
    · exact .inl h
    · exact .inr (unlike_of h)
def tooLong (bs : List (List UInt8)) : Bool := bs.any fun b => decide (b.length > 64)
theorem tooLong_take (bs : List (List UInt8)) (i : Nat) (b : List UInt8) (e : bs[i]? = some b) : tooLong (bs.take (i + 1)) = (tooLong (bs.take i) || decide (b.length > 64)) := by
  unfold tooLong
  rw [List.take_add_one, e, List.any_append]
  simp
theorem tooLong_of {bs : List (List UInt8)} {i : Nat} {b : List UInt8} (e : bs[i]? = some b) (h : b.length > 64) : tooLong bs = true := by
  unfold tooLong
  rw [List.any_eq_true]
  exact ⟨b, List.mem_of_getElem? e, by simpa using h⟩
def badFit (hs : List Int) (bs : List (List UInt8)) : Bool := decide (bs.length < 1) || decide (bs.length > 4) || decide (hs.length ≠ bs.length)
/-- Whether hashes fit blobs: the error. -/
def fitsOf (hs : List Int) (bs : List (List UInt8)) : Int := if badFit hs bs = true then 1 else if tooLong bs = true then 2 else if unlike hs bs = true then 1 else 0

theorem c_blob_Fits (hs : List Int) (bs : List (List UInt8)) (hb : ∀ b ∈ bs, b.length ≤ reachBytes) : Contract Try.prog 60 [ints .u64 hs, strs bs] (.int .i64 (fitsOf hs bs)) := by
  refine contract_of (C := cf 51 [0, 1, 4, 5, 6, 7, 8, 9, 24, 25, 26, 27, 28, 38, 50] (fun _ => [])) (cf_ok _ _ _) (fn := Try.f60) Try.func60 (by kernel_rfl) rfl (by kernel_rfl) (by simp [cf]) (plain2 (ints_plain _ hs) (strs_plain bs)) (by decide) (noCell (by kernel_rfl)) ?_
  simp only [go_sem, seval, ints, strs, List.length_map]
  refine ex_joinB 24 (badFit hs bs) ?_ ?_
  · repeat' (first | (refine ex_split (fun h => ?_) (fun h => ?_)) | (with_reducible refine And.intro (by omega) ?_) |
      (simp only [go_sem, seval, badFit, Int.ofNat_eq_natCast]))
    all_goals (try simp only [ASt.mk.injEq, List.cons.injEq, Prod.mk.injEq, AV.bool.injEq, true_and, and_true, eq_self])
    all_goals first | (simp_all; done) | (simp_all; omega) | (rw [Bool.eq_iff_iff]; simp only [List.length_map, Bool.or_eq_true, Bool.and_eq_true, Bool.not_eq_true', Bool.not_eq_false', decide_eq_true_eq, decide_eq_false_iff_not, bne_iff_ne, beq_iff_eq, ne_eq, true_iff, iff_true, false_iff, iff_false, Bool.false_eq_true, not_false_eq_true, not_true_eq_false] at *; omega)
  refine ex_br (fun h => ?_) (fun h => ?_)
  · simp only [go_sem, seval]
    refine finOne ?_ (fun _ e => by cases e)
    show resOf _ _ [.tmp 4] = _
    simp only [go_sem, seval, fitsOf, h]
  · simp only [go_sem, seval]
    have hbf : bs.length ≤ 4 ∧ hs.length = bs.length := by
      simp only [badFit, Bool.or_eq_false_iff, decide_eq_false_iff_not, ne_eq, Decidable.not_not] at h
      omega
    refine ex_iter [0, 1, 5, 25, 26, 27] (fun i : Nat => ⟨[(0, .sl false 1 (hs.map (AV.int .u64))), (1, .sl false 1 (bs.map AV.str)), (5, .bool (unlike (hs.take i) (bs.take i))), (25, .sl false 1 (bs.map AV.str)), (26, .int .i64 bs.length), (27, .int .i64 i)], [], []⟩)
      (fun i => i ≤ bs.length ∧ tooLong (bs.take i) = false) (fun i => bs.length - i) 0 ?_ ?_ ?_
    · simp only [ASt.keep, consIf, keepL, keepV, AV.isBot, List.contains_cons, List.contains_nil, Nat.reduceBEq, Bool.or_false, Bool.false_or, Bool.or_true, Bool.true_or, beq_self_eq_true, Bool.false_eq_true, ↓reduceIte, if_false, if_true]
      rw [List.length_map]; rfl
    · exact ⟨Nat.zero_le _, rfl⟩
    · intro n i hi next
      simp only [go_sem, seval]
      refine ex_br (fun hc => ?_) (fun hc => ?_)
      · have hlt : i < bs.length := by simpa using hc
        obtain ⟨b, eb⟩ : ∃ b, bs[i]? = some b := ⟨_, List.getElem?_eq_getElem hlt⟩
        obtain ⟨x, ex⟩ : ∃ x, hs[i]? = some x := ⟨_, List.getElem?_eq_getElem (by omega)⟩
        have hbl := hb b (List.mem_of_getElem? eb)
        unfold reachBytes at hbl
        simp only [go_sem, seval, List.length_map, List.getElem?_map, eb, Int.toNat_natCast]
        refine ⟨⟨by omega, by omega⟩, ?_⟩
        by_cases h64 : b.length ≤ 64
        · refine ex_call (c_blob_Hash b (by omega)) ?_
          simp only [go_sem, seval, if_pos h64]
          have ut := unlike_take hs bs i x b ex eb
          refine ex_joinB 5 (unlike (hs.take (i + 1)) (bs.take (i + 1))) ?_ ?_
          · repeat' (first | (refine ex_split (fun h => ?_) (fun h => ?_)) | (with_reducible refine And.intro (by omega) ?_) |
              (simp only [go_sem, seval, List.length_map, List.getElem?_map, ex, Int.toNat_natCast]))
            all_goals (try simp only [ASt.mk.injEq, List.cons.injEq, Prod.mk.injEq, AV.bool.injEq, true_and, and_true, eq_self])
            all_goals first | (simp_all; done) | (simp_all; omega) | (rw [Bool.eq_iff_iff]; simp only [List.length_map, Bool.or_eq_true, Bool.and_eq_true, Bool.not_eq_true', Bool.not_eq_false', decide_eq_true_eq, decide_eq_false_iff_not, bne_iff_ne, beq_iff_eq, ne_eq, true_iff, iff_true, false_iff, iff_false, Bool.false_eq_true, not_false_eq_true, not_true_eq_false] at *; omega)
          simp only [go_sem, seval]
          refine next (i + 1) _ ⟨by omega, by rw [tooLong_take _ _ _ eb, hi.2]; simpa using h64⟩ (by omega) ?_
          rw [← wi64_nat i (by omega)]
          simp only [ASt.keep, consIf, keepL, keepV, AV.isBot, List.contains_cons, List.contains_nil, Nat.reduceBEq, Bool.or_false, Bool.false_or, Bool.or_true, Bool.true_or, beq_self_eq_true, Bool.false_eq_true, ↓reduceIte, if_false, if_true]
        · refine ex_call (c_blob_Hash b (by omega)) ?_
          simp only [go_sem, seval, if_neg h64]
          refine finOne ?_ (fun _ e => by cases e)
          show resOf _ _ [.tmp 4] = _
          simp only [go_sem, seval, fitsOf, h, tooLong_of eb (by omega)]
      · have hge : i = bs.length := by simp at hc; omega
        subst hge
        have h1 : List.take bs.length hs = hs := by rw [← hbf.2]; exact List.take_length
        have h2 := hi.2
        rw [List.take_length] at h2
        simp only [go_sem, seval, List.take_length, h1]
        refine ex_br (fun hu => ?_) (fun hu => ?_)
        · simp only [go_sem, seval]
          refine finOne ?_ (fun _ e => by cases e)
          show resOf _ _ [.tmp 4] = _
          simp only [go_sem, seval, fitsOf, h, h2, hu]
        · simp only [go_sem, seval]
          refine finOne ?_ (fun _ e => by cases e)
          show resOf _ _ [.tmp 4] = _
          simp only [go_sem, seval, fitsOf, h, h2, hu]

theorem c_ref4_Fits (hs : List Int) (bs : List (List UInt8)) (hb : ∀ b ∈ bs, b.length ≤ reachBytes) : Contract Try.prog 52 [ints .u64 hs, strs bs] (.int .i64 (fitsOf hs bs)) := by
  refine contract_of (C := cf 50 [0, 1, 4, 5, 6, 21, 25, 33, 37, 49] (fun _ => [])) (cf_ok _ _ _) (fn := Try.f52) Try.func52 (by kernel_rfl) rfl (by kernel_rfl) (by simp [cf]) (plain2 (ints_plain _ hs) (strs_plain bs)) (by decide) (noCell (by kernel_rfl)) ?_
  simp only [go_sem, seval, ints, strs, List.length_map]
  refine ex_joinB 21 (badFit hs bs) ?_ ?_
  · repeat' (first | (refine ex_split (fun h => ?_) (fun h => ?_)) | (with_reducible refine And.intro (by omega) ?_) |
      (simp only [go_sem, seval, badFit, Int.ofNat_eq_natCast]))
    all_goals (try simp only [ASt.mk.injEq, List.cons.injEq, Prod.mk.injEq, AV.bool.injEq, true_and, and_true, eq_self])
    all_goals first | (simp_all; done) | (simp_all; omega) | (rw [Bool.eq_iff_iff]; simp only [List.length_map, Bool.or_eq_true, Bool.and_eq_true, Bool.not_eq_true', Bool.not_eq_false', decide_eq_true_eq, decide_eq_false_iff_not, bne_iff_ne, beq_iff_eq, ne_eq, true_iff, iff_true, false_iff, iff_false, Bool.false_eq_true, not_false_eq_true, not_true_eq_false] at *; omega)
  refine ex_br (fun h => ?_) (fun h => ?_)
  · simp only [go_sem, seval]
    refine finOne ?_ (fun _ e => by cases e)
    show resOf _ _ [.tmp 4] = _
    simp only [go_sem, seval, fitsOf, h]
  · simp only [go_sem, seval]
    have hbf : bs.length ≤ 4 ∧ hs.length = bs.length := by
      simp only [badFit, Bool.or_eq_false_iff, decide_eq_false_iff_not, ne_eq, Decidable.not_not] at h
      omega
    refine ex_iter [0, 1, 5] (fun i : Nat => ⟨[(0, .sl false 1 (hs.map (AV.int .u64))), (1, .sl false 1 (bs.map AV.str)), (5, .int .i64 i)], [], []⟩)
      (fun i => i ≤ bs.length ∧ tooLong (bs.take i) = false) (fun i => bs.length - i) 0 ?_ ?_ ?_
    · simp only [ASt.keep, consIf, keepL, keepV, AV.isBot, List.contains_cons, List.contains_nil, Nat.reduceBEq, Bool.or_false, Bool.false_or, Bool.or_true, Bool.true_or, beq_self_eq_true, Bool.false_eq_true, ↓reduceIte, if_false, if_true]
      rfl
    · exact ⟨Nat.zero_le _, rfl⟩
    · intro n i hi next
      simp only [go_sem, seval, List.length_map]
      refine ex_br (fun hc => ?_) (fun hc => ?_)
      · have hlt : i < bs.length := by simpa using hc
        obtain ⟨b, eb⟩ : ∃ b, bs[i]? = some b := ⟨_, List.getElem?_eq_getElem hlt⟩
        have hbl := hb b (List.mem_of_getElem? eb)
        unfold reachBytes at hbl
        simp only [go_sem, seval, List.length_map, List.getElem?_map, eb, Int.toNat_natCast]
        refine ⟨⟨by omega, by omega⟩, ?_⟩
        refine ex_br (fun h64 => ?_) (fun h64 => ?_)
        · have h64 : 64 < b.length := by simp at h64; omega
          simp only [go_sem, seval]
          refine finOne ?_ (fun _ e => by cases e)
          show resOf _ _ [.tmp 4] = _
          simp only [go_sem, seval, fitsOf, h, tooLong_of eb (by omega)]
        · have h64 : b.length ≤ 64 := by simp at h64; omega
          simp only [go_sem, seval]
          refine next (i + 1) _ ⟨by omega, by rw [tooLong_take _ _ _ eb, hi.2]; simpa using h64⟩ (by omega) ?_
          rw [← wi64_nat i (by omega)]
          simp only [ASt.keep, consIf, keepL, keepV, AV.isBot, List.contains_cons, List.contains_nil, Nat.reduceBEq, Bool.or_false, Bool.false_or, Bool.or_true, Bool.true_or, beq_self_eq_true, Bool.false_eq_true, ↓reduceIte, if_false, if_true]
      · have hge : i = bs.length := by simp at hc; omega
        subst hge
        have h2 := hi.2
        rw [List.take_length] at h2
        simp only [go_sem, seval]
        clear next hi n
        refine ex_iter [0, 1, 6] (fun i : Nat => ⟨[(0, .sl false 1 (hs.map (AV.int .u64))), (1, .sl false 1 (bs.map AV.str)), (6, .int .i64 i)], [], []⟩)
          (fun i => i ≤ bs.length ∧ unlike (hs.take i) (bs.take i) = false) (fun i => bs.length - i) 0 ?_ ?_ ?_
        · simp only [ASt.keep, consIf, keepL, keepV, AV.isBot, List.contains_cons, List.contains_nil, Nat.reduceBEq, Bool.or_false, Bool.false_or, Bool.or_true, Bool.true_or, beq_self_eq_true, Bool.false_eq_true, ↓reduceIte, if_false, if_true]
          rfl
        · exact ⟨Nat.zero_le _, rfl⟩
        · intro n i hi next
          simp only [go_sem, seval, List.length_map]
          refine ex_br (fun hc => ?_) (fun hc => ?_)
          · have hlt : i < bs.length := by simpa using hc
            obtain ⟨b, eb⟩ : ∃ b, bs[i]? = some b := ⟨_, List.getElem?_eq_getElem hlt⟩
            obtain ⟨x, ex⟩ : ∃ x, hs[i]? = some x := ⟨_, List.getElem?_eq_getElem (by omega)⟩
            have hbl := hb b (List.mem_of_getElem? eb)
            unfold reachBytes at hbl
            simp only [go_sem, seval]
            refine ex_draw [] [] (.quiet 0 (.quiet 1 (.quiet 2 (.quiet 3 (.quiet 4 (.quiet 5 (.quiet 6 (.quiet 7 (.one 8 (.quiet 9 (.fin))))))))))) (by kernel_rfl) ?_
            simp only [go_sem, seval, List.length_map, List.getElem?_map, eb, ex, Int.toNat_natCast]
            refine ⟨⟨by omega, by omega⟩, ⟨by omega, by omega⟩, ?_⟩
            refine ex_call (c_ref4_Hash b (by omega)) ?_
            simp only [go_sem, seval]
            have ut := unlike_take hs bs i x b ex eb
            rw [hi.2, Bool.false_or] at ut
            refine ex_br (fun hu => ?_) (fun hu => ?_)
            · have hne : hashOf b ≠ x := by simp only [bne_iff_ne, ne_eq] at hu; exact fun e => hu e.symm
              have hun : unlike hs bs = true := unlike_of (by rw [ut]; simpa using hne)
              simp only [go_sem, seval]
              refine finOne ?_ (fun _ e => by cases e)
              show resOf _ _ [.tmp 4] = _
              simp only [go_sem, seval, fitsOf, h, h2, hun]
            · have hne : hashOf b = x := by simp only [bne_eq_false_iff_eq] at hu; exact hu.symm
              simp only [go_sem, seval]
              refine next (i + 1) _ ⟨by omega, by rw [ut]; simpa using hne⟩ (by omega) ?_
              rw [← wi64_nat i (by omega)]
              simp only [ASt.keep, consIf, keepL, keepV, AV.isBot, List.contains_cons, List.contains_nil, Nat.reduceBEq, Bool.or_false, Bool.false_or, Bool.or_true, Bool.true_or, beq_self_eq_true, Bool.false_eq_true, ↓reduceIte, if_false, if_true]
          · have hge : i = bs.length := by simp at hc; omega
            subst hge
            have h1 : List.take bs.length hs = hs := by rw [← hbf.2]; exact List.take_length
            have h3 := hi.2
            rw [List.take_length, h1] at h3
            simp only [go_sem, seval]
            refine finOne ?_ (fun _ e => by cases e)
            show resOf _ _ [.tmp 4] = _
            simp only [go_sem, seval, fitsOf, h, h2, h3]

end Go.Proofs.Ytdenldjlijoeoaa.VA
end
section
/- Transactions as data; what they cost. -/
namespace Go.Proofs.Ytdenldjlijoeoaa.VA
set_option maxRecDepth 10000
set_option linter.unusedSimpArgs false
set_option linter.unusedVariables false
set_option maxHeartbeats 8000000

structure TxD where
  frm : Int
  nonce : Int
  tip : Nat
  cap : Nat
  bcap : Nat
  value : Nat
  gas : Int
  hashes : List Int
  blobs : List (List UInt8)
def TxD.cells (t : TxD) : List AV := [.int .i64 t.frm, .int .i64 t.nonce, .int .u64 (lim t.tip 0), .int .u64 (lim t.tip 1), .int .u64 (lim t.tip 2), .int .u64 (lim t.tip 3),
  .int .u64 (lim t.cap 0), .int .u64 (lim t.cap 1), .int .u64 (lim t.cap 2), .int .u64 (lim t.cap 3), .int .u64 (lim t.bcap 0), .int .u64 (lim t.bcap 1), .int .u64 (lim t.bcap 2), .int .u64 (lim t.bcap 3),
  .int .u64 (lim t.value 0), .int .u64 (lim t.value 1), .int .u64 (lim t.value 2), .int .u64 (lim t.value 3), .int .i64 t.gas, ints .u64 t.hashes, strs t.blobs]
def TxD.av (t : TxD) : AV := .agg t.cells
theorem TxD.plain (t : TxD) : Plain t.av := .agg _ fun c hc => by
  simp only [TxD.cells, List.mem_cons, List.not_mem_nil, or_false] at hc
  rcases hc with rfl | rfl | rfl | rfl | rfl | rfl | rfl | rfl | rfl | rfl | rfl | rfl | rfl | rfl | rfl | rfl | rfl | rfl | rfl | rfl | rfl <;> first | exact .int _ _ | exact ints_plain _ _ | exact strs_plain _
/-- What data of a transaction may be at all. -/
structure TxD.ok (t : TxD) : Prop where
  frm : -9223372036854775808 ≤ t.frm ∧ t.frm ≤ 9223372036854775807
  nonce : -9223372036854775808 ≤ t.nonce ∧ t.nonce ≤ 9223372036854775807
  gas : -9223372036854775808 ≤ t.gas ∧ t.gas ≤ 9223372036854775807
  tip : t.tip < U
  cap : t.cap < U
  bcap : t.bcap < U
  value : t.value < U
  hashes : t.hashes.length * 8 ≤ reachBytes
  blobs : t.blobs.length * 16 ≤ reachBytes
  blob : ∀ b ∈ t.blobs, b.length ≤ reachBytes

def costOf (t : TxD) : Nat := t.cap * t.gas.toNat + t.bcap * (131072 * t.blobs.length) + t.value
theorem c_MulS (n g : Nat) (hn : n < U) (hg : g < 18446744073709551616) : Contract Try.prog 72 [.agg [.int .u64 (lim n 0), .int .u64 (lim n 1), .int .u64 (lim n 2), .int .u64 (lim n 3)], .agg [.int .u64 (g : Int), .int .u64 0, .int .u64 0, .int .u64 0]] (.tup [u (if n * g < U then n * g else 0), .int .i64 (if n * g < U then 0 else 8)]) := by
  rw [← u_small g hg]
  exact c_u256_Mul n g hn (by unfold U; omega)

theorem eq_of_bne {x : Int} (h : (x != 0) = false) : x = 0 := by simpa using h
theorem res_cases {f : FuncId} {args : List AV} (A : Nat) (h : Contract Try.prog f args (.tup [u (if A < U then A else 0), .int .i64 (if A < U then 0 else 8)])) :
    ∃ (x : Nat) (e : Int), x < U ∧ (e = 0 ∧ x = A ∨ e = 8 ∧ U ≤ A) ∧ Contract Try.prog f args (.tup [u x, .int .i64 e]) := by
  refine ⟨_, _, ?_, ?_, h⟩
  · split
    · assumption
    · decide
  · by_cases hA : A < U
    · rw [if_pos hA, if_pos hA]; exact .inl ⟨rfl, rfl⟩
    · rw [if_neg hA, if_neg hA]; exact .inr ⟨rfl, by omega⟩
theorem c_tx_cost (t : TxD) (h : t.ok) (hg : 0 ≤ t.gas ∧ t.gas ≤ 1073741824) (hb : 1 ≤ t.blobs.length ∧ t.blobs.length ≤ 4) :
    Contract Try.prog 61 [t.av] (.tup [u (if costOf t < U then costOf t else 0), .bool (decide (costOf t < U))]) := by
  refine contract_of (C := cf 69 [1, 2, 3, 4, 5, 6, 7, 8, 9, 10, 11, 13, 22, 60, 61, 62, 65] (fun _ => [])) (cf_ok _ _ _) (fn := Try.f61) Try.func61 (by kernel_rfl) rfl (by kernel_rfl) (by simp [cf]) (plain1 t.plain) (by decide) (cellsOk (by kernel_rfl)) ?_
  have g1 : gasOf (t.blobs.length : Int) = ((131072 * t.blobs.length : Nat) : Int) := by unfold gasOf; rw [if_neg (by omega)]; omega
  have g2 : gasErr (t.blobs.length : Int) = 0 := by unfold gasErr; rw [if_neg (by omega)]
  have w1 : IntKind.u64.wrap t.gas = ((t.gas.toNat : Nat) : Int) := by rw [wu64 (by omega) (by omega)]; omega
  have w2 : IntKind.u64.wrap ((131072 * t.blobs.length : Nat) : Int) = ((131072 * t.blobs.length : Nat) : Int) := wu64 (by omega) (by omega)
  have c1 := c_MulS t.cap t.gas.toNat h.cap (by omega)
  have c2 := c_MulS t.bcap (131072 * t.blobs.length) h.bcap (by omega)
  obtain ⟨A, hA⟩ : ∃ A, A = t.cap * t.gas.toNat := ⟨_, rfl⟩
  obtain ⟨B, hB⟩ : ∃ B, B = t.bcap * (131072 * t.blobs.length) := ⟨_, rfl⟩
  rw [← hA] at c1
  rw [← hB] at c2
  have hcost : costOf t = A + B + t.value := by rw [hA, hB]; rfl
  rw [hcost]
  obtain ⟨x, e1, hx, hx2, c1'⟩ : ∃ (x : Nat) (e1 : Int), x < U ∧ (e1 = 0 ∧ x = A ∨ e1 = 8 ∧ U ≤ A) ∧ Contract Try.prog 72 [.agg [.int .u64 (lim t.cap 0), .int .u64 (lim t.cap 1), .int .u64 (lim t.cap 2), .int .u64 (lim t.cap 3)], .agg [.int .u64 (t.gas.toNat : Int), .int .u64 0, .int .u64 0, .int .u64 0]] (.tup [u x, .int .i64 e1]) := res_cases A c1
  obtain ⟨y, e2, hy, hy2, c2'⟩ : ∃ (x : Nat) (e1 : Int), x < U ∧ (e1 = 0 ∧ x = B ∨ e1 = 8 ∧ U ≤ B) ∧ Contract Try.prog 72 [.agg [.int .u64 (lim t.bcap 0), .int .u64 (lim t.bcap 1), .int .u64 (lim t.bcap 2), .int .u64 (lim t.bcap 3)], .agg [.int .u64 ((131072 * t.blobs.length : Nat) : Int), .int .u64 0, .int .u64 0, .int .u64 0]] (.tup [u x, .int .i64 e1]) := res_cases B c2
  obtain ⟨z, e3, hz, hz2, c3⟩ : ∃ (z : Nat) (e : Int), z < U ∧ (e = 0 ∧ z = x + y ∨ e = 8 ∧ U ≤ x + y) ∧ Contract Try.prog 73 [u x, u y] (.tup [u z, .int .i64 e]) := res_cases (x + y) (c_u256_Add x y hx hy)
  obtain ⟨v, e4, hv, hv2, c4⟩ : ∃ (v : Nat) (e : Int), v < U ∧ (e = 0 ∧ v = z + t.value ∨ e = 8 ∧ U ≤ z + t.value) ∧ Contract Try.prog 73 [u z, u t.value] (.tup [u v, .int .i64 e]) := res_cases (z + t.value) (c_u256_Add z t.value hz h.value)
  have hz4 : u 0 = _ := u_small 0 (by decide)
  have fin : (e1 = 0 ∧ e2 = 0 ∧ e3 = 0 ∧ e4 = 0 → A + B + t.value < U ∧ v = A + B + t.value) ∧ (e1 ≠ 0 ∨ e2 ≠ 0 ∨ e3 ≠ 0 ∨ e4 ≠ 0 → ¬ A + B + t.value < U) := by
    clear c1 c2 c1' c2' c3 c4 hA hB hcost hz4
    constructor
    · rintro ⟨q1, q2, q3, q4⟩; omega
    · intro q; omega
  clear c1 c2 hA hB hx2 hy2 hz2 hv2 hcost
  generalize A + B + t.value = T at fin
  simp only [go_sem, ↓reduceIte, Nat.reduceLT, Nat.reduceLeDiff, Nat.reduceAdd, Nat.reduceSub, Nat.reduceMul, Nat.reduceEqDiff, Nat.reduceBEq, Nat.reduceMod, Nat.reduceDiv, Int.reduceToNat, reduceCtorEq, Int.reduceLT, Int.reduceLE, Int.reduceGT, Int.reduceGE, Int.reduceAdd, Int.reduceSub, Int.reduceMul, Int.reduceNeg, Int.reduceEq, Int.reduceNe, Int.reduceBNe, Int.reduceBEq, Int.reduceDiv, TxD.av, TxD.cells, ints, strs, List.length_map]
  refine ex_call (c_blob_Gas _) ?_
  simp only [go_sem, ↓reduceIte, Nat.reduceLT, Nat.reduceLeDiff, Nat.reduceAdd, Nat.reduceSub, Nat.reduceMul, Nat.reduceEqDiff, Nat.reduceBEq, Nat.reduceMod, Nat.reduceDiv, Int.reduceToNat, reduceCtorEq, Int.reduceLT, Int.reduceLE, Int.reduceGT, Int.reduceGE, Int.reduceAdd, Int.reduceSub, Int.reduceMul, Int.reduceNeg, Int.reduceEq, Int.reduceNe, Int.reduceBNe, Int.reduceBEq, Int.reduceDiv, g1, g2, w1, w2]
  refine ex_call c1' ?_
  simp only [go_sem, ↓reduceIte, Nat.reduceLT, Nat.reduceLeDiff, Nat.reduceAdd, Nat.reduceSub, Nat.reduceMul, Nat.reduceEqDiff, Nat.reduceBEq, Nat.reduceMod, Nat.reduceDiv, Int.reduceToNat, reduceCtorEq, Int.reduceLT, Int.reduceLE, Int.reduceGT, Int.reduceGE, Int.reduceAdd, Int.reduceSub, Int.reduceMul, Int.reduceNeg, Int.reduceEq, Int.reduceNe, Int.reduceBNe, Int.reduceBEq, Int.reduceDiv, u, w1, w2]
  refine ex_call c2' ?_
  simp only [go_sem, ↓reduceIte, Nat.reduceLT, Nat.reduceLeDiff, Nat.reduceAdd, Nat.reduceSub, Nat.reduceMul, Nat.reduceEqDiff, Nat.reduceBEq, Nat.reduceMod, Nat.reduceDiv, Int.reduceToNat, reduceCtorEq, Int.reduceLT, Int.reduceLE, Int.reduceGT, Int.reduceGE, Int.reduceAdd, Int.reduceSub, Int.reduceMul, Int.reduceNeg, Int.reduceEq, Int.reduceNe, Int.reduceBNe, Int.reduceBEq, Int.reduceDiv, u, w1, w2]
  refine ex_call (by exact c3) ?_
  simp only [go_sem, ↓reduceIte, Nat.reduceLT, Nat.reduceLeDiff, Nat.reduceAdd, Nat.reduceSub, Nat.reduceMul, Nat.reduceEqDiff, Nat.reduceBEq, Nat.reduceMod, Nat.reduceDiv, Int.reduceToNat, reduceCtorEq, Int.reduceLT, Int.reduceLE, Int.reduceGT, Int.reduceGE, Int.reduceAdd, Int.reduceSub, Int.reduceMul, Int.reduceNeg, Int.reduceEq, Int.reduceNe, Int.reduceBNe, Int.reduceBEq, Int.reduceDiv, u]
  refine ex_call (by exact c4) ?_
  simp only [go_sem, ↓reduceIte, Nat.reduceLT, Nat.reduceLeDiff, Nat.reduceAdd, Nat.reduceSub, Nat.reduceMul, Nat.reduceEqDiff, Nat.reduceBEq, Nat.reduceMod, Nat.reduceDiv, Int.reduceToNat, reduceCtorEq, Int.reduceLT, Int.reduceLE, Int.reduceGT, Int.reduceGE, Int.reduceAdd, Int.reduceSub, Int.reduceMul, Int.reduceNeg, Int.reduceEq, Int.reduceNe, Int.reduceBNe, Int.reduceBEq, Int.reduceDiv, u]
  refine ex_loop [2, 60, 61] 5 ?_
  iterate 4
    simp only [go_sem, ↓reduceIte, Nat.reduceLT, Nat.reduceLeDiff, Nat.reduceAdd, Nat.reduceSub, Nat.reduceMul, Nat.reduceEqDiff, Nat.reduceBEq, Nat.reduceMod, Nat.reduceDiv, Int.reduceToNat, reduceCtorEq, Int.reduceLT, Int.reduceLE, Int.reduceGT, Int.reduceGE, Int.reduceAdd, Int.reduceSub, Int.reduceMul, Int.reduceNeg, Int.reduceEq, Int.reduceNe, Int.reduceBNe, Int.reduceBEq, Int.reduceDiv, ex_round, Int.cast_ofNat_Int, wi64]
    refine ex_br (fun h => ?_) (fun h => ?_)
    · have hn : ¬ T < U := fin.2 (by simp only [bne_iff_ne] at h; simp only [h, ne_eq, not_false_eq_true, true_or, or_true])
      rw [if_neg hn, decide_eq_false hn]
      simp only [go_sem, ↓reduceIte, Nat.reduceLT, Nat.reduceLeDiff, Nat.reduceAdd, Nat.reduceSub, Nat.reduceMul, Nat.reduceEqDiff, Nat.reduceBEq, Nat.reduceMod, Nat.reduceDiv, Int.reduceToNat, reduceCtorEq, Int.reduceLT, Int.reduceLE, Int.reduceGT, Int.reduceGE, Int.reduceAdd, Int.reduceSub, Int.reduceMul, Int.reduceNeg, Int.reduceEq, Int.reduceNe, Int.reduceBNe, Int.reduceBEq, Int.reduceDiv]
      refine finTup ?_
      show resOf _ _ [.cell 2 45, .tmp 3] = _
      simp only [go_sem, ↓reduceIte, Nat.reduceLT, Nat.reduceLeDiff, Nat.reduceAdd, Nat.reduceSub, Nat.reduceMul, Nat.reduceEqDiff, Nat.reduceBEq, Nat.reduceMod, Nat.reduceDiv, Int.reduceToNat, reduceCtorEq, Int.reduceLT, Int.reduceLE, Int.reduceGT, Int.reduceGE, Int.reduceAdd, Int.reduceSub, Int.reduceMul, Int.reduceNeg, Int.reduceEq, Int.reduceNe, Int.reduceBNe, Int.reduceBEq, Int.reduceDiv]
      try rfl
    have h := eq_of_bne h
  obtain ⟨f1, f2⟩ := fin.1 (by refine ⟨?_, ?_, ?_, ?_⟩ <;> assumption)
  rw [if_pos f1, decide_eq_true f1, ← f2]
  simp only [go_sem, ↓reduceIte, Nat.reduceLT, Nat.reduceLeDiff, Nat.reduceAdd, Nat.reduceSub, Nat.reduceMul, Nat.reduceEqDiff, Nat.reduceBEq, Nat.reduceMod, Nat.reduceDiv, Int.reduceToNat, reduceCtorEq, Int.reduceLT, Int.reduceLE, Int.reduceGT, Int.reduceGE, Int.reduceAdd, Int.reduceSub, Int.reduceMul, Int.reduceNeg, Int.reduceEq, Int.reduceNe, Int.reduceBNe, Int.reduceBEq, Int.reduceDiv, ex_round, Int.cast_ofNat_Int, wi64]
  refine finTup ?_
  show resOf _ _ [.cell 2 45, .tmp 3] = _
  simp only [go_sem, ↓reduceIte, Nat.reduceLT, Nat.reduceLeDiff, Nat.reduceAdd, Nat.reduceSub, Nat.reduceMul, Nat.reduceEqDiff, Nat.reduceBEq, Nat.reduceMod, Nat.reduceDiv, Int.reduceToNat, reduceCtorEq, Int.reduceLT, Int.reduceLE, Int.reduceGT, Int.reduceGE, Int.reduceAdd, Int.reduceSub, Int.reduceMul, Int.reduceNeg, Int.reduceEq, Int.reduceNe, Int.reduceBNe, Int.reduceBEq, Int.reduceDiv]
  try rfl

/-! The page's own answer. -/
theorem res_casesB {f : FuncId} {args : List AV} (A : Nat) (h : Contract Try.prog f args (.tup [u (if A < U then A else 0), .bool (decide (A < U))])) :
    ∃ (x : Nat) (e : Bool), x < U ∧ (e = true ∧ x = A ∧ A < U ∨ e = false ∧ U ≤ A) ∧ (e = false → x = 0) ∧ Contract Try.prog f args (.tup [u x, .bool e]) := by
  refine ⟨_, _, ?_, ?_, fun e => if_neg (of_decide_eq_false e), h⟩
  · split
    · assumption
    · decide
  · by_cases hA : A < U
    · rw [if_pos hA, decide_eq_true hA]; exact .inl ⟨rfl, rfl, hA⟩
    · rw [if_neg hA, decide_eq_false hA]; exact .inr ⟨rfl, by omega⟩
theorem c_ref1_OfL (g : Nat) (hg : g ≤ 9223372036854775807) : Contract Try.prog 65 [.int .i64 g] (.agg [.int .u64 (g : Int), .int .u64 0, .int .u64 0, .int .u64 0]) := by
  have w : IntKind.u64.wrap (g : Int) = g := wu64 (by omega) (by omega)
  refine contract_of (C := cf 6 [0, 2] (fun _ => [])) (cf_ok _ _ _) (fn := Try.f65) Try.func65 (by kernel_rfl) rfl (by kernel_rfl) (by simp [cf]) (plain1 (.int _ _)) (by decide) (cellsOk (by kernel_rfl)) ?_
  simp only [go_sem, ↓reduceIte, Nat.reduceLT, Nat.reduceLeDiff, Nat.reduceAdd, Nat.reduceSub, Nat.reduceMul, Nat.reduceEqDiff, Nat.reduceBEq, Nat.reduceMod, Nat.reduceDiv, Int.reduceToNat, reduceCtorEq, Int.reduceLT, Int.reduceLE, Int.reduceGT, Int.reduceGE, Int.reduceAdd, Int.reduceSub, Int.reduceMul, Int.reduceNeg, Int.reduceEq, Int.reduceNe, Int.reduceBNe, Int.reduceBEq, Int.reduceDiv, w]
  refine finOne ?_ (fun _ e => by cases e)
  show resOf _ _ [.cell 2 45] = _
  simp only [go_sem, ↓reduceIte, Nat.reduceLT, Nat.reduceLeDiff, Nat.reduceAdd, Nat.reduceSub, Nat.reduceMul, Nat.reduceEqDiff, Nat.reduceBEq, Nat.reduceMod, Nat.reduceDiv, Int.reduceToNat, reduceCtorEq, Int.reduceLT, Int.reduceLE, Int.reduceGT, Int.reduceGE, Int.reduceAdd, Int.reduceSub, Int.reduceMul, Int.reduceNeg, Int.reduceEq, Int.reduceNe, Int.reduceBNe, Int.reduceBEq, Int.reduceDiv]
theorem c_rMulS (n g : Nat) (hn : n < U) (hg : g < 18446744073709551616) : Contract Try.prog 64 [.agg [.int .u64 (lim n 0), .int .u64 (lim n 1), .int .u64 (lim n 2), .int .u64 (lim n 3)], .agg [.int .u64 (g : Int), .int .u64 0, .int .u64 0, .int .u64 0]] (.tup [u (if n * g < U then n * g else 0), .bool (decide (n * g < U))]) := by
  rw [← u_small g hg]
  exact c_ref1_Mul n g hn (by unfold U; omega)
theorem c_ref7_Cost (t : TxD) (h : t.ok) (hg : 0 ≤ t.gas ∧ t.gas ≤ 1073741824) (hb : t.blobs.length ≤ 4) :
    Contract Try.prog 53 [t.av] (.tup [u (if costOf t < U then costOf t else 0), .bool (decide (costOf t < U))]) := by
  refine contract_of (C := cf 52 [1, 2, 3, 4, 5, 6, 7, 8, 9, 35, 44] (fun _ => [])) (cf_ok _ _ _) (fn := Try.f53) Try.func53 (by kernel_rfl) rfl (by kernel_rfl) (by simp [cf]) (plain1 t.plain) (by decide) (cellsOk (by kernel_rfl)) ?_
  have w1 : AV.int IntKind.i64 t.gas = .int .i64 ((t.gas.toNat : Nat) : Int) := by congr 1; omega
  have w2 : IntKind.i64.wrap (131072 * (t.blobs.length : Int)) = ((131072 * t.blobs.length : Nat) : Int) := by rw [wi64 (by omega) (by omega)]; omega
  have c1 := c_rMulS t.cap t.gas.toNat h.cap (by omega)
  have c2 := c_rMulS t.bcap (131072 * t.blobs.length) h.bcap (by omega)
  have o1 := c_ref1_OfL t.gas.toNat (by omega)
  have o2 := c_ref1_OfL (131072 * t.blobs.length) (by omega)
  obtain ⟨A, hA⟩ : ∃ A, A = t.cap * t.gas.toNat := ⟨_, rfl⟩
  obtain ⟨B, hB⟩ : ∃ B, B = t.bcap * (131072 * t.blobs.length) := ⟨_, rfl⟩
  rw [← hA] at c1
  rw [← hB] at c2
  have hcost : costOf t = A + B + t.value := by rw [hA, hB]; rfl
  rw [hcost]
  obtain ⟨x, e1, hx, hx2, _, c1'⟩ := res_casesB A c1
  obtain ⟨y, e2, hy, hy2, _, c2'⟩ := res_casesB B c2
  obtain ⟨z, e3, hz, hz2, _, c3⟩ := res_casesB (x + y) (c_ref1_Add x y hx hy)
  obtain ⟨v, e4, hv, hv2, hv0, c4⟩ := res_casesB (z + t.value) (c_ref1_Add z t.value hz h.value)
  have hz4 : u 0 = _ := u_small 0 (by decide)
  have fin : (e1 = true → e2 = true → e3 = true → (A + B + t.value < U ∧ e4 = true ∧ v = A + B + t.value) ∨ (¬ A + B + t.value < U ∧ e4 = false ∧ v = 0)) ∧ (e1 = false ∨ e2 = false ∨ e3 = false → ¬ A + B + t.value < U) := by
    clear c1 c2 c1' c2' c3 c4 hA hB hcost hz4 o1 o2 w1 w2
    constructor
    · rintro rfl rfl rfl
      obtain ⟨_, rfl, q1⟩ | ⟨q, _⟩ := hx2
      · obtain ⟨_, rfl, q2⟩ | ⟨q, _⟩ := hy2
        · obtain ⟨_, rfl, q3⟩ | ⟨q, _⟩ := hz2
          · obtain ⟨r1, r2, r3⟩ | ⟨r1, r2⟩ := hv2
            · exact .inl ⟨r3, r1, r2⟩
            · exact .inr ⟨by omega, r1, hv0 r1⟩
          · cases q
        · cases q
      · cases q
    · intro q
      obtain ⟨_, rfl, q1⟩ | ⟨_, q1⟩ := hx2
      · obtain ⟨_, rfl, q2⟩ | ⟨_, q2⟩ := hy2
        · obtain ⟨_, rfl, q3⟩ | ⟨_, q3⟩ := hz2
          · simp_all
          · omega
        · omega
      · omega
  clear c1 c2 hA hB hx2 hy2 hz2 hv2 hcost
  generalize A + B + t.value = T at fin
  simp only [go_sem, ↓reduceIte, Nat.reduceLT, Nat.reduceLeDiff, Nat.reduceAdd, Nat.reduceSub, Nat.reduceMul, Nat.reduceEqDiff, Nat.reduceBEq, Nat.reduceMod, Nat.reduceDiv, Int.reduceToNat, reduceCtorEq, Int.reduceLT, Int.reduceLE, Int.reduceGT, Int.reduceGE, Int.reduceAdd, Int.reduceSub, Int.reduceMul, Int.reduceNeg, Int.reduceEq, Int.reduceNe, Int.reduceBNe, Int.reduceBEq, Int.reduceDiv, TxD.av, TxD.cells, ints, strs, List.length_map]
  refine ex_draw [] [4] (.quiet 0 (.quiet 1 (.quiet 2 (.quiet 3 (.two 4 (.two 5 (.quiet 6 (.quiet 7 (.quiet 8 (.one 9 (.lone 10 (.quiet 11 (.fin))))))) 9 (.one 5 (.quiet 6 (.quiet 7 (.quiet 8 (.lone 10 (.quiet 11 (.fin)))))))) 9 (.one 4 (.one 5 (.quiet 6 (.quiet 7 (.quiet 8 (.lone 10 (.quiet 11 (.fin))))))))))))) (by kernel_rfl) ?_
  refine ex_drawn ⟨[(1, .var 1 0), (2, .var 2 0), (3, .bool false), (4, .var 4 0), (5, .bool e1)], [(1, [.int .i64 t.frm, .int .i64 t.nonce, .int .u64 (lim t.tip 0), .int .u64 (lim t.tip 1), .int .u64 (lim t.tip 2), .int .u64 (lim t.tip 3),
  .int .u64 (lim t.cap 0), .int .u64 (lim t.cap 1), .int .u64 (lim t.cap 2), .int .u64 (lim t.cap 3), .int .u64 (lim t.bcap 0), .int .u64 (lim t.bcap 1), .int .u64 (lim t.bcap 2), .int .u64 (lim t.bcap 3),
  .int .u64 (lim t.value 0), .int .u64 (lim t.value 1), .int .u64 (lim t.value 2), .int .u64 (lim t.value 3), .int .i64 t.gas, .sl false 1 (t.hashes.map (AV.int .u64)), .sl false 1 (t.blobs.map AV.str)]), (2, [.int .u64 0, .int .u64 0, .int .u64 0, .int .u64 0]), (4, [.int .u64 (lim x 0), .int .u64 (lim x 1), .int .u64 (lim x 2), .int .u64 (lim x 3)])], []⟩ ?_ ?_
  · rw [← w1] at o1
    repeat' (first | (with_reducible refine And.intro ?_ ?_) | (refine ex_call o1 ?_) | (refine ex_call c1' ?_) |
      (simp only [go_sem, ↓reduceIte, Nat.reduceLT, Nat.reduceLeDiff, Nat.reduceAdd, Nat.reduceSub, Nat.reduceMul, Nat.reduceEqDiff, Nat.reduceBEq, Nat.reduceMod, Nat.reduceDiv, Int.reduceToNat, reduceCtorEq, Int.reduceLT, Int.reduceLE, Int.reduceGT, Int.reduceGE, Int.reduceAdd, Int.reduceSub, Int.reduceMul, Int.reduceNeg, Int.reduceEq, Int.reduceNe, Int.reduceBNe, Int.reduceBEq, Int.reduceDiv, ex_ord_two, u]))
  · simp only [go_sem, ↓reduceIte, Nat.reduceLT, Nat.reduceLeDiff, Nat.reduceAdd, Nat.reduceSub, Nat.reduceMul, Nat.reduceEqDiff, Nat.reduceBEq, Nat.reduceMod, Nat.reduceDiv, Int.reduceToNat, reduceCtorEq, Int.reduceLT, Int.reduceLE, Int.reduceGT, Int.reduceGE, Int.reduceAdd, Int.reduceSub, Int.reduceMul, Int.reduceNeg, Int.reduceEq, Int.reduceNe, Int.reduceBNe, Int.reduceBEq, Int.reduceDiv, List.length_map]
    refine ex_draw [] [6] (.quiet 0 (.quiet 1 (.quiet 2 (.quiet 3 (.quiet 4 (.quiet 5 (.two 6 (.two 7 (.quiet 8 (.quiet 9 (.quiet 10 (.one 11 (.lone 12 (.quiet 13 (.fin))))))) 11 (.one 7 (.quiet 8 (.quiet 9 (.quiet 10 (.lone 12 (.quiet 13 (.fin)))))))) 11 (.one 6 (.one 7 (.quiet 8 (.quiet 9 (.quiet 10 (.lone 12 (.quiet 13 (.fin))))))))))))))) (by kernel_rfl) ?_
    refine ex_drawn ⟨[(1, .var 1 0), (2, .var 2 0), (3, .bool false), (4, .var 4 0), (5, .bool e1), (6, .var 6 0), (7, .bool e2)], [(1, [.int .i64 t.frm, .int .i64 t.nonce, .int .u64 (lim t.tip 0), .int .u64 (lim t.tip 1), .int .u64 (lim t.tip 2), .int .u64 (lim t.tip 3), .int .u64 (lim t.cap 0), .int .u64 (lim t.cap 1), .int .u64 (lim t.cap 2), .int .u64 (lim t.cap 3), .int .u64 (lim t.bcap 0), .int .u64 (lim t.bcap 1), .int .u64 (lim t.bcap 2), .int .u64 (lim t.bcap 3), .int .u64 (lim t.value 0), .int .u64 (lim t.value 1), .int .u64 (lim t.value 2), .int .u64 (lim t.value 3), .int .i64 t.gas, .sl false 1 (t.hashes.map (AV.int .u64)), .sl false 1 (t.blobs.map AV.str)]), (2, [.int .u64 0, .int .u64 0, .int .u64 0, .int .u64 0]), (4, [.int .u64 (lim x 0), .int .u64 (lim x 1), .int .u64 (lim x 2), .int .u64 (lim x 3)]), (6, [.int .u64 (lim y 0), .int .u64 (lim y 1), .int .u64 (lim y 2), .int .u64 (lim y 3)])], []⟩ ?_ ?_
    · repeat' (first | (with_reducible refine And.intro ?_ ?_) | (refine ex_call o2 ?_) | (refine ex_call c2' ?_) |
        (simp only [go_sem, ↓reduceIte, Nat.reduceLT, Nat.reduceLeDiff, Nat.reduceAdd, Nat.reduceSub, Nat.reduceMul, Nat.reduceEqDiff, Nat.reduceBEq, Nat.reduceMod, Nat.reduceDiv, Int.reduceToNat, reduceCtorEq, Int.reduceLT, Int.reduceLE, Int.reduceGT, Int.reduceGE, Int.reduceAdd, Int.reduceSub, Int.reduceMul, Int.reduceNeg, Int.reduceEq, Int.reduceNe, Int.reduceBNe, Int.reduceBEq, Int.reduceDiv, ex_ord_two, u, w2, List.length_map]))
    · clear o1 o2 c1' c2'
      cases e1 with
      | false =>
        have hn := fin.2 (by simp)
        rw [if_neg hn, decide_eq_false hn, hz4]
        simp only [go_sem, ↓reduceIte, Nat.reduceLT, Nat.reduceLeDiff, Nat.reduceAdd, Nat.reduceSub, Nat.reduceMul, Nat.reduceEqDiff, Nat.reduceBEq, Nat.reduceMod, Nat.reduceDiv, Int.reduceToNat, reduceCtorEq, Int.reduceLT, Int.reduceLE, Int.reduceGT, Int.reduceGE, Int.reduceAdd, Int.reduceSub, Int.reduceMul, Int.reduceNeg, Int.reduceEq, Int.reduceNe, Int.reduceBNe, Int.reduceBEq, Int.reduceDiv]
        refine finTup ?_
        show resOf _ _ [.cell 2 45, .tmp 3] = _
        simp only [go_sem, ↓reduceIte, Nat.reduceLT, Nat.reduceLeDiff, Nat.reduceAdd, Nat.reduceSub, Nat.reduceMul, Nat.reduceEqDiff, Nat.reduceBEq, Nat.reduceMod, Nat.reduceDiv, Int.reduceToNat, reduceCtorEq, Int.reduceLT, Int.reduceLE, Int.reduceGT, Int.reduceGE, Int.reduceAdd, Int.reduceSub, Int.reduceMul, Int.reduceNeg, Int.reduceEq, Int.reduceNe, Int.reduceBNe, Int.reduceBEq, Int.reduceDiv]
        rfl
      | true =>
        cases e2 with
        | false =>
          have hn := fin.2 (by simp)
          rw [if_neg hn, decide_eq_false hn, hz4]
          simp only [go_sem, ↓reduceIte, Nat.reduceLT, Nat.reduceLeDiff, Nat.reduceAdd, Nat.reduceSub, Nat.reduceMul, Nat.reduceEqDiff, Nat.reduceBEq, Nat.reduceMod, Nat.reduceDiv, Int.reduceToNat, reduceCtorEq, Int.reduceLT, Int.reduceLE, Int.reduceGT, Int.reduceGE, Int.reduceAdd, Int.reduceSub, Int.reduceMul, Int.reduceNeg, Int.reduceEq, Int.reduceNe, Int.reduceBNe, Int.reduceBEq, Int.reduceDiv]
          refine finTup ?_
          show resOf _ _ [.cell 2 45, .tmp 3] = _
          simp only [go_sem, ↓reduceIte, Nat.reduceLT, Nat.reduceLeDiff, Nat.reduceAdd, Nat.reduceSub, Nat.reduceMul, Nat.reduceEqDiff, Nat.reduceBEq, Nat.reduceMod, Nat.reduceDiv, Int.reduceToNat, reduceCtorEq, Int.reduceLT, Int.reduceLE, Int.reduceGT, Int.reduceGE, Int.reduceAdd, Int.reduceSub, Int.reduceMul, Int.reduceNeg, Int.reduceEq, Int.reduceNe, Int.reduceBNe, Int.reduceBEq, Int.reduceDiv]
          rfl
        | true =>
          simp only [go_sem, ↓reduceIte, Nat.reduceLT, Nat.reduceLeDiff, Nat.reduceAdd, Nat.reduceSub, Nat.reduceMul, Nat.reduceEqDiff, Nat.reduceBEq, Nat.reduceMod, Nat.reduceDiv, Int.reduceToNat, reduceCtorEq, Int.reduceLT, Int.reduceLE, Int.reduceGT, Int.reduceGE, Int.reduceAdd, Int.reduceSub, Int.reduceMul, Int.reduceNeg, Int.reduceEq, Int.reduceNe, Int.reduceBNe, Int.reduceBEq, Int.reduceDiv]
          refine ex_call (by exact c3) ?_
          cases e3 with
          | false =>
            have hn := fin.2 (by simp)
            rw [if_neg hn, decide_eq_false hn, hz4]
            simp only [go_sem, ↓reduceIte, Nat.reduceLT, Nat.reduceLeDiff, Nat.reduceAdd, Nat.reduceSub, Nat.reduceMul, Nat.reduceEqDiff, Nat.reduceBEq, Nat.reduceMod, Nat.reduceDiv, Int.reduceToNat, reduceCtorEq, Int.reduceLT, Int.reduceLE, Int.reduceGT, Int.reduceGE, Int.reduceAdd, Int.reduceSub, Int.reduceMul, Int.reduceNeg, Int.reduceEq, Int.reduceNe, Int.reduceBNe, Int.reduceBEq, Int.reduceDiv, u]
            refine finTup ?_
            show resOf _ _ [.cell 2 45, .tmp 3] = _
            simp only [go_sem, ↓reduceIte, Nat.reduceLT, Nat.reduceLeDiff, Nat.reduceAdd, Nat.reduceSub, Nat.reduceMul, Nat.reduceEqDiff, Nat.reduceBEq, Nat.reduceMod, Nat.reduceDiv, Int.reduceToNat, reduceCtorEq, Int.reduceLT, Int.reduceLE, Int.reduceGT, Int.reduceGE, Int.reduceAdd, Int.reduceSub, Int.reduceMul, Int.reduceNeg, Int.reduceEq, Int.reduceNe, Int.reduceBNe, Int.reduceBEq, Int.reduceDiv]
            rfl
          | true =>
            simp only [go_sem, ↓reduceIte, Nat.reduceLT, Nat.reduceLeDiff, Nat.reduceAdd, Nat.reduceSub, Nat.reduceMul, Nat.reduceEqDiff, Nat.reduceBEq, Nat.reduceMod, Nat.reduceDiv, Int.reduceToNat, reduceCtorEq, Int.reduceLT, Int.reduceLE, Int.reduceGT, Int.reduceGE, Int.reduceAdd, Int.reduceSub, Int.reduceMul, Int.reduceNeg, Int.reduceEq, Int.reduceNe, Int.reduceBNe, Int.reduceBEq, Int.reduceDiv, u]
            refine ex_call (by exact c4) ?_
            simp only [go_sem, ↓reduceIte, Nat.reduceLT, Nat.reduceLeDiff, Nat.reduceAdd, Nat.reduceSub, Nat.reduceMul, Nat.reduceEqDiff, Nat.reduceBEq, Nat.reduceMod, Nat.reduceDiv, Int.reduceToNat, reduceCtorEq, Int.reduceLT, Int.reduceLE, Int.reduceGT, Int.reduceGE, Int.reduceAdd, Int.reduceSub, Int.reduceMul, Int.reduceNeg, Int.reduceEq, Int.reduceNe, Int.reduceBNe, Int.reduceBEq, Int.reduceDiv, u]
            refine finTup ?_
            show resOf _ _ [.cell 2 45, .tmp 3] = _
            obtain ⟨f1, rfl, rfl⟩ | ⟨f1, rfl, rfl⟩ := fin.1 rfl rfl rfl
            · rw [if_pos f1, decide_eq_true f1]
              simp only [go_sem, ↓reduceIte, Nat.reduceLT, Nat.reduceLeDiff, Nat.reduceAdd, Nat.reduceSub, Nat.reduceMul, Nat.reduceEqDiff, Nat.reduceBEq, Nat.reduceMod, Nat.reduceDiv, Int.reduceToNat, reduceCtorEq, Int.reduceLT, Int.reduceLE, Int.reduceGT, Int.reduceGE, Int.reduceAdd, Int.reduceSub, Int.reduceMul, Int.reduceNeg, Int.reduceEq, Int.reduceNe, Int.reduceBNe, Int.reduceBEq, Int.reduceDiv, u]
            · rw [if_neg f1, decide_eq_false f1]
              simp only [go_sem, ↓reduceIte, Nat.reduceLT, Nat.reduceLeDiff, Nat.reduceAdd, Nat.reduceSub, Nat.reduceMul, Nat.reduceEqDiff, Nat.reduceBEq, Nat.reduceMod, Nat.reduceDiv, Int.reduceToNat, reduceCtorEq, Int.reduceLT, Int.reduceLE, Int.reduceGT, Int.reduceGE, Int.reduceAdd, Int.reduceSub, Int.reduceMul, Int.reduceNeg, Int.reduceEq, Int.reduceNe, Int.reduceBNe, Int.reduceBEq, Int.reduceDiv, u]

/-! Which transactions may be. -/
def validTx (t : TxD) : Bool := decide (0 ≤ t.frm) && decide (t.frm < 8) && (decide (0 ≤ t.nonce) && decide (t.nonce ≤ 1099511627776)) && (decide (0 ≤ t.gas) && decide (t.gas ≤ 1073741824)) && decide (t.tip ≤ t.cap) && decide (fitsOf t.hashes t.blobs = 0) && decide (costOf t < U)
theorem fits_len {hs : List Int} {bs : List (List UInt8)} (h : fitsOf hs bs = 0) : 1 ≤ bs.length ∧ bs.length ≤ 4 ∧ hs.length = bs.length := by
  unfold fitsOf at h
  cases hb : badFit hs bs with
  | true => rw [hb] at h; cases h
  | false =>
    simp only [badFit, Bool.or_eq_false_iff, decide_eq_false_iff_not, ne_eq, Decidable.not_not] at hb
    omega
theorem cmp_le {n m : Nat} : decide (cmpOf n m > 0) = !decide (n ≤ m) := by
  unfold cmpOf
  rw [Bool.eq_iff_iff]
  simp only [decide_eq_true_eq, Bool.not_eq_true', decide_eq_false_iff_not]
  split <;> (try split) <;> omega

theorem cmp_lt {n m : Nat} : decide (cmpOf n m < 0) = decide (n < m) := by
  unfold cmpOf
  rw [Bool.eq_iff_iff]
  simp only [decide_eq_true_eq]
  split <;> (try split) <;> omega
theorem c_tx_Check (t : TxD) (h : t.ok) : Contract Try.prog 44 [t.av] (.int .i64 (if validTx t = true then 0 else 1)) := by
  refine contract_of (C := cf 50 [1, 2, 4, 5, 30, 49] (fun _ => [])) (cf_ok _ _ _) (fn := Try.f44) Try.func44 (by kernel_rfl) rfl (by kernel_rfl) (by simp [cf]) (plain1 t.plain) (by decide) (noCell (by kernel_rfl)) ?_
  have bad : ∀ {p : Prop}, (validTx t = true → p) → ¬ p → (if validTx t = true then (0 : Int) else 1) = 1 := fun h1 h2 => if_neg fun e => h2 (h1 e)
  have v1 : validTx t = true → 0 ≤ t.frm ∧ t.frm < 8 := fun e => by simp only [validTx, Bool.and_eq_true, decide_eq_true_eq] at e; omega
  have v2 : validTx t = true → 0 ≤ t.nonce ∧ t.nonce ≤ 1099511627776 := fun e => by simp only [validTx, Bool.and_eq_true, decide_eq_true_eq] at e; omega
  have v3 : validTx t = true → 0 ≤ t.gas ∧ t.gas ≤ 1073741824 := fun e => by simp only [validTx, Bool.and_eq_true, decide_eq_true_eq] at e; omega
  have v4 : validTx t = true → t.tip ≤ t.cap := fun e => by simp only [validTx, Bool.and_eq_true, decide_eq_true_eq] at e; omega
  have v5 : validTx t = true → fitsOf t.hashes t.blobs = 0 := fun e => by simp only [validTx, Bool.and_eq_true, decide_eq_true_eq] at e; exact e.1.2
  have v6 : validTx t = true → costOf t < U := fun e => by simp only [validTx, Bool.and_eq_true, decide_eq_true_eq] at e; exact e.2
  simp only [go_sem, ↓reduceIte, Nat.reduceLT, Nat.reduceLeDiff, Nat.reduceAdd, Nat.reduceSub, Nat.reduceMul, Nat.reduceEqDiff, Nat.reduceBEq, Nat.reduceMod, Nat.reduceDiv, Int.reduceToNat, reduceCtorEq, Int.reduceLT, Int.reduceLE, Int.reduceGT, Int.reduceGE, Int.reduceAdd, Int.reduceSub, Int.reduceMul, Int.reduceNeg, Int.reduceEq, Int.reduceNe, Int.reduceBNe, Int.reduceBEq, Int.reduceDiv, TxD.av, TxD.cells, ints, strs, List.length_map]
  refine ex_joinB 5 (decide (t.frm < 0) || decide (t.frm ≥ 8)) ?_ ?_
  · repeat' (first | (refine ex_split (fun h => ?_) (fun h => ?_)) | (with_reducible refine And.intro (by omega) ?_) |
      (simp only [go_sem, ↓reduceIte, Nat.reduceLT, Nat.reduceLeDiff, Nat.reduceAdd, Nat.reduceSub, Nat.reduceMul, Nat.reduceEqDiff, Nat.reduceBEq, Nat.reduceMod, Nat.reduceDiv, Int.reduceToNat, reduceCtorEq, Int.reduceLT, Int.reduceLE, Int.reduceGT, Int.reduceGE, Int.reduceAdd, Int.reduceSub, Int.reduceMul, Int.reduceNeg, Int.reduceEq, Int.reduceNe, Int.reduceBNe, Int.reduceBEq, Int.reduceDiv]))
    all_goals (try simp only [ASt.mk.injEq, List.cons.injEq, Prod.mk.injEq, AV.bool.injEq, true_and, and_true, eq_self])
    all_goals first | (simp_all; done) | (simp_all; omega) | (rw [Bool.eq_iff_iff]; simp only [List.length_map, Bool.or_eq_true, Bool.and_eq_true, Bool.not_eq_true', Bool.not_eq_false', decide_eq_true_eq, decide_eq_false_iff_not, bne_iff_ne, beq_iff_eq, ne_eq, true_iff, iff_true, false_iff, iff_false, Bool.false_eq_true, not_false_eq_true, not_true_eq_false] at *; omega)
  simp only [go_sem, ↓reduceIte, Nat.reduceLT, Nat.reduceLeDiff, Nat.reduceAdd, Nat.reduceSub, Nat.reduceMul, Nat.reduceEqDiff, Nat.reduceBEq, Nat.reduceMod, Nat.reduceDiv, Int.reduceToNat, reduceCtorEq, Int.reduceLT, Int.reduceLE, Int.reduceGT, Int.reduceGE, Int.reduceAdd, Int.reduceSub, Int.reduceMul, Int.reduceNeg, Int.reduceEq, Int.reduceNe, Int.reduceBNe, Int.reduceBEq, Int.reduceDiv]
  refine ex_br (fun b1 => ?_) (fun b1 => ?_)
  · rw [bad v1 (by simp at b1; omega)]
    simp only [go_sem, ↓reduceIte, Nat.reduceLT, Nat.reduceLeDiff, Nat.reduceAdd, Nat.reduceSub, Nat.reduceMul, Nat.reduceEqDiff, Nat.reduceBEq, Nat.reduceMod, Nat.reduceDiv, Int.reduceToNat, reduceCtorEq, Int.reduceLT, Int.reduceLE, Int.reduceGT, Int.reduceGE, Int.reduceAdd, Int.reduceSub, Int.reduceMul, Int.reduceNeg, Int.reduceEq, Int.reduceNe, Int.reduceBNe, Int.reduceBEq, Int.reduceDiv, b1]
    refine finOne ?_ (fun _ e => by cases e)
    show resOf _ _ [.tmp 2] = _
    simp only [go_sem, ↓reduceIte, Nat.reduceLT, Nat.reduceLeDiff, Nat.reduceAdd, Nat.reduceSub, Nat.reduceMul, Nat.reduceEqDiff, Nat.reduceBEq, Nat.reduceMod, Nat.reduceDiv, Int.reduceToNat, reduceCtorEq, Int.reduceLT, Int.reduceLE, Int.reduceGT, Int.reduceGE, Int.reduceAdd, Int.reduceSub, Int.reduceMul, Int.reduceNeg, Int.reduceEq, Int.reduceNe, Int.reduceBNe, Int.reduceBEq, Int.reduceDiv]
  · simp only [go_sem, ↓reduceIte, Nat.reduceLT, Nat.reduceLeDiff, Nat.reduceAdd, Nat.reduceSub, Nat.reduceMul, Nat.reduceEqDiff, Nat.reduceBEq, Nat.reduceMod, Nat.reduceDiv, Int.reduceToNat, reduceCtorEq, Int.reduceLT, Int.reduceLE, Int.reduceGT, Int.reduceGE, Int.reduceAdd, Int.reduceSub, Int.reduceMul, Int.reduceNeg, Int.reduceEq, Int.reduceNe, Int.reduceBNe, Int.reduceBEq, Int.reduceDiv]
    refine ex_joinB 5 (decide (t.nonce < 0) || decide (t.nonce > 1099511627776)) ?_ ?_
    · repeat' (first | (refine ex_split (fun h => ?_) (fun h => ?_)) | (with_reducible refine And.intro (by omega) ?_) |
        (simp only [go_sem, ↓reduceIte, Nat.reduceLT, Nat.reduceLeDiff, Nat.reduceAdd, Nat.reduceSub, Nat.reduceMul, Nat.reduceEqDiff, Nat.reduceBEq, Nat.reduceMod, Nat.reduceDiv, Int.reduceToNat, reduceCtorEq, Int.reduceLT, Int.reduceLE, Int.reduceGT, Int.reduceGE, Int.reduceAdd, Int.reduceSub, Int.reduceMul, Int.reduceNeg, Int.reduceEq, Int.reduceNe, Int.reduceBNe, Int.reduceBEq, Int.reduceDiv]))
      all_goals (try simp only [ASt.mk.injEq, List.cons.injEq, Prod.mk.injEq, AV.bool.injEq, true_and, and_true, eq_self])
      all_goals first | (simp_all; done) | (simp_all; omega) | (rw [Bool.eq_iff_iff]; simp only [List.length_map, Bool.or_eq_true, Bool.and_eq_true, Bool.not_eq_true', Bool.not_eq_false', decide_eq_true_eq, decide_eq_false_iff_not, bne_iff_ne, beq_iff_eq, ne_eq, true_iff, iff_true, false_iff, iff_false, Bool.false_eq_true, not_false_eq_true, not_true_eq_false] at *; omega)
    simp only [go_sem, ↓reduceIte, Nat.reduceLT, Nat.reduceLeDiff, Nat.reduceAdd, Nat.reduceSub, Nat.reduceMul, Nat.reduceEqDiff, Nat.reduceBEq, Nat.reduceMod, Nat.reduceDiv, Int.reduceToNat, reduceCtorEq, Int.reduceLT, Int.reduceLE, Int.reduceGT, Int.reduceGE, Int.reduceAdd, Int.reduceSub, Int.reduceMul, Int.reduceNeg, Int.reduceEq, Int.reduceNe, Int.reduceBNe, Int.reduceBEq, Int.reduceDiv]
    refine ex_br (fun b2 => ?_) (fun b2 => ?_)
    · rw [bad v2 (by simp at b2; omega)]
      simp only [go_sem, ↓reduceIte, Nat.reduceLT, Nat.reduceLeDiff, Nat.reduceAdd, Nat.reduceSub, Nat.reduceMul, Nat.reduceEqDiff, Nat.reduceBEq, Nat.reduceMod, Nat.reduceDiv, Int.reduceToNat, reduceCtorEq, Int.reduceLT, Int.reduceLE, Int.reduceGT, Int.reduceGE, Int.reduceAdd, Int.reduceSub, Int.reduceMul, Int.reduceNeg, Int.reduceEq, Int.reduceNe, Int.reduceBNe, Int.reduceBEq, Int.reduceDiv, b2]
      refine finOne ?_ (fun _ e => by cases e)
      show resOf _ _ [.tmp 2] = _
      simp only [go_sem, ↓reduceIte, Nat.reduceLT, Nat.reduceLeDiff, Nat.reduceAdd, Nat.reduceSub, Nat.reduceMul, Nat.reduceEqDiff, Nat.reduceBEq, Nat.reduceMod, Nat.reduceDiv, Int.reduceToNat, reduceCtorEq, Int.reduceLT, Int.reduceLE, Int.reduceGT, Int.reduceGE, Int.reduceAdd, Int.reduceSub, Int.reduceMul, Int.reduceNeg, Int.reduceEq, Int.reduceNe, Int.reduceBNe, Int.reduceBEq, Int.reduceDiv]
    · simp only [go_sem, ↓reduceIte, Nat.reduceLT, Nat.reduceLeDiff, Nat.reduceAdd, Nat.reduceSub, Nat.reduceMul, Nat.reduceEqDiff, Nat.reduceBEq, Nat.reduceMod, Nat.reduceDiv, Int.reduceToNat, reduceCtorEq, Int.reduceLT, Int.reduceLE, Int.reduceGT, Int.reduceGE, Int.reduceAdd, Int.reduceSub, Int.reduceMul, Int.reduceNeg, Int.reduceEq, Int.reduceNe, Int.reduceBNe, Int.reduceBEq, Int.reduceDiv]
      refine ex_joinB 5 (decide (t.gas < 0) || decide (t.gas > 1073741824)) ?_ ?_
      · repeat' (first | (refine ex_split (fun h => ?_) (fun h => ?_)) | (with_reducible refine And.intro (by omega) ?_) |
          (simp only [go_sem, ↓reduceIte, Nat.reduceLT, Nat.reduceLeDiff, Nat.reduceAdd, Nat.reduceSub, Nat.reduceMul, Nat.reduceEqDiff, Nat.reduceBEq, Nat.reduceMod, Nat.reduceDiv, Int.reduceToNat, reduceCtorEq, Int.reduceLT, Int.reduceLE, Int.reduceGT, Int.reduceGE, Int.reduceAdd, Int.reduceSub, Int.reduceMul, Int.reduceNeg, Int.reduceEq, Int.reduceNe, Int.reduceBNe, Int.reduceBEq, Int.reduceDiv]))
        all_goals (try simp only [ASt.mk.injEq, List.cons.injEq, Prod.mk.injEq, AV.bool.injEq, true_and, and_true, eq_self])
        all_goals first | (simp_all; done) | (simp_all; omega) | (rw [Bool.eq_iff_iff]; simp only [List.length_map, Bool.or_eq_true, Bool.and_eq_true, Bool.not_eq_true', Bool.not_eq_false', decide_eq_true_eq, decide_eq_false_iff_not, bne_iff_ne, beq_iff_eq, ne_eq, true_iff, iff_true, false_iff, iff_false, Bool.false_eq_true, not_false_eq_true, not_true_eq_false] at *; omega)
      simp only [go_sem, ↓reduceIte, Nat.reduceLT, Nat.reduceLeDiff, Nat.reduceAdd, Nat.reduceSub, Nat.reduceMul, Nat.reduceEqDiff, Nat.reduceBEq, Nat.reduceMod, Nat.reduceDiv, Int.reduceToNat, reduceCtorEq, Int.reduceLT, Int.reduceLE, Int.reduceGT, Int.reduceGE, Int.reduceAdd, Int.reduceSub, Int.reduceMul, Int.reduceNeg, Int.reduceEq, Int.reduceNe, Int.reduceBNe, Int.reduceBEq, Int.reduceDiv]
      refine ex_br (fun b3 => ?_) (fun b3 => ?_)
      · rw [bad v3 (by simp at b3; omega)]
        simp only [go_sem, ↓reduceIte, Nat.reduceLT, Nat.reduceLeDiff, Nat.reduceAdd, Nat.reduceSub, Nat.reduceMul, Nat.reduceEqDiff, Nat.reduceBEq, Nat.reduceMod, Nat.reduceDiv, Int.reduceToNat, reduceCtorEq, Int.reduceLT, Int.reduceLE, Int.reduceGT, Int.reduceGE, Int.reduceAdd, Int.reduceSub, Int.reduceMul, Int.reduceNeg, Int.reduceEq, Int.reduceNe, Int.reduceBNe, Int.reduceBEq, Int.reduceDiv, b3]
        refine finOne ?_ (fun _ e => by cases e)
        show resOf _ _ [.tmp 2] = _
        simp only [go_sem, ↓reduceIte, Nat.reduceLT, Nat.reduceLeDiff, Nat.reduceAdd, Nat.reduceSub, Nat.reduceMul, Nat.reduceEqDiff, Nat.reduceBEq, Nat.reduceMod, Nat.reduceDiv, Int.reduceToNat, reduceCtorEq, Int.reduceLT, Int.reduceLE, Int.reduceGT, Int.reduceGE, Int.reduceAdd, Int.reduceSub, Int.reduceMul, Int.reduceNeg, Int.reduceEq, Int.reduceNe, Int.reduceBNe, Int.reduceBEq, Int.reduceDiv]
      · simp only [go_sem, ↓reduceIte, Nat.reduceLT, Nat.reduceLeDiff, Nat.reduceAdd, Nat.reduceSub, Nat.reduceMul, Nat.reduceEqDiff, Nat.reduceBEq, Nat.reduceMod, Nat.reduceDiv, Int.reduceToNat, reduceCtorEq, Int.reduceLT, Int.reduceLE, Int.reduceGT, Int.reduceGE, Int.reduceAdd, Int.reduceSub, Int.reduceMul, Int.reduceNeg, Int.reduceEq, Int.reduceNe, Int.reduceBNe, Int.reduceBEq, Int.reduceDiv]
        refine ex_call (by exact c_u256_Cmp t.tip t.cap h.tip h.cap) ?_
        simp only [go_sem, ↓reduceIte, Nat.reduceLT, Nat.reduceLeDiff, Nat.reduceAdd, Nat.reduceSub, Nat.reduceMul, Nat.reduceEqDiff, Nat.reduceBEq, Nat.reduceMod, Nat.reduceDiv, Int.reduceToNat, reduceCtorEq, Int.reduceLT, Int.reduceLE, Int.reduceGT, Int.reduceGE, Int.reduceAdd, Int.reduceSub, Int.reduceMul, Int.reduceNeg, Int.reduceEq, Int.reduceNe, Int.reduceBNe, Int.reduceBEq, Int.reduceDiv, cmp_le]
        refine ex_br (fun b4 => ?_) (fun b4 => ?_)
        · rw [bad v4 (by simp at b4; omega)]
          simp only [go_sem, ↓reduceIte, Nat.reduceLT, Nat.reduceLeDiff, Nat.reduceAdd, Nat.reduceSub, Nat.reduceMul, Nat.reduceEqDiff, Nat.reduceBEq, Nat.reduceMod, Nat.reduceDiv, Int.reduceToNat, reduceCtorEq, Int.reduceLT, Int.reduceLE, Int.reduceGT, Int.reduceGE, Int.reduceAdd, Int.reduceSub, Int.reduceMul, Int.reduceNeg, Int.reduceEq, Int.reduceNe, Int.reduceBNe, Int.reduceBEq, Int.reduceDiv, b4]
          refine finOne ?_ (fun _ e => by cases e)
          show resOf _ _ [.tmp 2] = _
          simp only [go_sem, ↓reduceIte, Nat.reduceLT, Nat.reduceLeDiff, Nat.reduceAdd, Nat.reduceSub, Nat.reduceMul, Nat.reduceEqDiff, Nat.reduceBEq, Nat.reduceMod, Nat.reduceDiv, Int.reduceToNat, reduceCtorEq, Int.reduceLT, Int.reduceLE, Int.reduceGT, Int.reduceGE, Int.reduceAdd, Int.reduceSub, Int.reduceMul, Int.reduceNeg, Int.reduceEq, Int.reduceNe, Int.reduceBNe, Int.reduceBEq, Int.reduceDiv]
        · simp only [go_sem, ↓reduceIte, Nat.reduceLT, Nat.reduceLeDiff, Nat.reduceAdd, Nat.reduceSub, Nat.reduceMul, Nat.reduceEqDiff, Nat.reduceBEq, Nat.reduceMod, Nat.reduceDiv, Int.reduceToNat, reduceCtorEq, Int.reduceLT, Int.reduceLE, Int.reduceGT, Int.reduceGE, Int.reduceAdd, Int.reduceSub, Int.reduceMul, Int.reduceNeg, Int.reduceEq, Int.reduceNe, Int.reduceBNe, Int.reduceBEq, Int.reduceDiv]
          refine ex_call (by exact c_blob_Fits t.hashes t.blobs h.blob) ?_
          simp only [go_sem, ↓reduceIte, Nat.reduceLT, Nat.reduceLeDiff, Nat.reduceAdd, Nat.reduceSub, Nat.reduceMul, Nat.reduceEqDiff, Nat.reduceBEq, Nat.reduceMod, Nat.reduceDiv, Int.reduceToNat, reduceCtorEq, Int.reduceLT, Int.reduceLE, Int.reduceGT, Int.reduceGE, Int.reduceAdd, Int.reduceSub, Int.reduceMul, Int.reduceNeg, Int.reduceEq, Int.reduceNe, Int.reduceBNe, Int.reduceBEq, Int.reduceDiv]
          refine ex_br (fun b5 => ?_) (fun b5 => ?_)
          · rw [bad v5 (by simpa using b5)]
            simp only [go_sem, ↓reduceIte, Nat.reduceLT, Nat.reduceLeDiff, Nat.reduceAdd, Nat.reduceSub, Nat.reduceMul, Nat.reduceEqDiff, Nat.reduceBEq, Nat.reduceMod, Nat.reduceDiv, Int.reduceToNat, reduceCtorEq, Int.reduceLT, Int.reduceLE, Int.reduceGT, Int.reduceGE, Int.reduceAdd, Int.reduceSub, Int.reduceMul, Int.reduceNeg, Int.reduceEq, Int.reduceNe, Int.reduceBNe, Int.reduceBEq, Int.reduceDiv, b5]
            refine finOne ?_ (fun _ e => by cases e)
            show resOf _ _ [.tmp 2] = _
            simp only [go_sem, ↓reduceIte, Nat.reduceLT, Nat.reduceLeDiff, Nat.reduceAdd, Nat.reduceSub, Nat.reduceMul, Nat.reduceEqDiff, Nat.reduceBEq, Nat.reduceMod, Nat.reduceDiv, Int.reduceToNat, reduceCtorEq, Int.reduceLT, Int.reduceLE, Int.reduceGT, Int.reduceGE, Int.reduceAdd, Int.reduceSub, Int.reduceMul, Int.reduceNeg, Int.reduceEq, Int.reduceNe, Int.reduceBNe, Int.reduceBEq, Int.reduceDiv]
          · have hf : fitsOf t.hashes t.blobs = 0 := by simpa using b5
            have hl := fits_len hf
            have hgas : 0 ≤ t.gas ∧ t.gas ≤ 1073741824 := by simp at b3; omega
            simp only [go_sem, ↓reduceIte, Nat.reduceLT, Nat.reduceLeDiff, Nat.reduceAdd, Nat.reduceSub, Nat.reduceMul, Nat.reduceEqDiff, Nat.reduceBEq, Nat.reduceMod, Nat.reduceDiv, Int.reduceToNat, reduceCtorEq, Int.reduceLT, Int.reduceLE, Int.reduceGT, Int.reduceGE, Int.reduceAdd, Int.reduceSub, Int.reduceMul, Int.reduceNeg, Int.reduceEq, Int.reduceNe, Int.reduceBNe, Int.reduceBEq, Int.reduceDiv]
            refine ex_call (by exact c_tx_cost t h hgas ⟨hl.1, hl.2.1⟩) ?_
            simp only [go_sem, ↓reduceIte, Nat.reduceLT, Nat.reduceLeDiff, Nat.reduceAdd, Nat.reduceSub, Nat.reduceMul, Nat.reduceEqDiff, Nat.reduceBEq, Nat.reduceMod, Nat.reduceDiv, Int.reduceToNat, reduceCtorEq, Int.reduceLT, Int.reduceLE, Int.reduceGT, Int.reduceGE, Int.reduceAdd, Int.reduceSub, Int.reduceMul, Int.reduceNeg, Int.reduceEq, Int.reduceNe, Int.reduceBNe, Int.reduceBEq, Int.reduceDiv, u]
            refine ex_br (fun b6 => ?_) (fun b6 => ?_)
            · rw [bad v6 (by simpa using b6)]
              simp only [go_sem, ↓reduceIte, Nat.reduceLT, Nat.reduceLeDiff, Nat.reduceAdd, Nat.reduceSub, Nat.reduceMul, Nat.reduceEqDiff, Nat.reduceBEq, Nat.reduceMod, Nat.reduceDiv, Int.reduceToNat, reduceCtorEq, Int.reduceLT, Int.reduceLE, Int.reduceGT, Int.reduceGE, Int.reduceAdd, Int.reduceSub, Int.reduceMul, Int.reduceNeg, Int.reduceEq, Int.reduceNe, Int.reduceBNe, Int.reduceBEq, Int.reduceDiv, b6]
              refine finOne ?_ (fun _ e => by cases e)
              show resOf _ _ [.tmp 2] = _
              simp only [go_sem, ↓reduceIte, Nat.reduceLT, Nat.reduceLeDiff, Nat.reduceAdd, Nat.reduceSub, Nat.reduceMul, Nat.reduceEqDiff, Nat.reduceBEq, Nat.reduceMod, Nat.reduceDiv, Int.reduceToNat, reduceCtorEq, Int.reduceLT, Int.reduceLE, Int.reduceGT, Int.reduceGE, Int.reduceAdd, Int.reduceSub, Int.reduceMul, Int.reduceNeg, Int.reduceEq, Int.reduceNe, Int.reduceBNe, Int.reduceBEq, Int.reduceDiv]
            · have hv : validTx t = true := by
                simp only [validTx, Bool.and_eq_true, decide_eq_true_eq]
                simp at b1 b2 b4 b6
                refine ⟨⟨⟨⟨⟨⟨?_, ?_⟩, ?_, ?_⟩, ?_, ?_⟩, ?_⟩, hf⟩, ?_⟩ <;> omega
              rw [if_pos hv]
              simp only [go_sem, ↓reduceIte, Nat.reduceLT, Nat.reduceLeDiff, Nat.reduceAdd, Nat.reduceSub, Nat.reduceMul, Nat.reduceEqDiff, Nat.reduceBEq, Nat.reduceMod, Nat.reduceDiv, Int.reduceToNat, reduceCtorEq, Int.reduceLT, Int.reduceLE, Int.reduceGT, Int.reduceGE, Int.reduceAdd, Int.reduceSub, Int.reduceMul, Int.reduceNeg, Int.reduceEq, Int.reduceNe, Int.reduceBNe, Int.reduceBEq, Int.reduceDiv]
              refine finOne ?_ (fun _ e => by cases e)
              show resOf _ _ [.tmp 2] = _
              simp only [go_sem, ↓reduceIte, Nat.reduceLT, Nat.reduceLeDiff, Nat.reduceAdd, Nat.reduceSub, Nat.reduceMul, Nat.reduceEqDiff, Nat.reduceBEq, Nat.reduceMod, Nat.reduceDiv, Int.reduceToNat, reduceCtorEq, Int.reduceLT, Int.reduceLE, Int.reduceGT, Int.reduceGE, Int.reduceAdd, Int.reduceSub, Int.reduceMul, Int.reduceNeg, Int.reduceEq, Int.reduceNe, Int.reduceBNe, Int.reduceBEq, Int.reduceDiv]
end Go.Proofs.Ytdenldjlijoeoaa.VA
end
section
/- Which transactions may be, by the page; their costs; pairs. -/
namespace Go.Proofs.Ytdenldjlijoeoaa.VA
set_option maxRecDepth 10000
set_option linter.unusedSimpArgs false
set_option linter.unusedVariables false
set_option maxHeartbeats 8000000

theorem c_ref7_Tx (t : TxD) (h : t.ok) : Contract Try.prog 32 [t.av] (.bool (validTx t)) := by
  refine contract_of (C := cf 43 [1, 2, 4, 36] (fun _ => [])) (cf_ok _ _ _) (fn := Try.f32) Try.func32 (by kernel_rfl) rfl (by kernel_rfl) (by simp [cf]) (plain1 t.plain) (by decide) (noCell (by kernel_rfl)) ?_
  have bad : ∀ {p : Prop}, (validTx t = true → p) → ¬ p → validTx t = false := fun h1 h2 => by
    cases hv : validTx t with
    | false => rfl
    | true => exact (h2 (h1 hv)).elim
  have v1 : validTx t = true → 0 ≤ t.frm ∧ t.frm < 8 := fun e => by simp only [validTx, Bool.and_eq_true, decide_eq_true_eq] at e; omega
  have v2 : validTx t = true → 0 ≤ t.nonce ∧ t.nonce ≤ 1099511627776 := fun e => by simp only [validTx, Bool.and_eq_true, decide_eq_true_eq] at e; omega
  have v3 : validTx t = true → 0 ≤ t.gas ∧ t.gas ≤ 1073741824 := fun e => by simp only [validTx, Bool.and_eq_true, decide_eq_true_eq] at e; omega
  have v4 : validTx t = true → t.tip ≤ t.cap := fun e => by simp only [validTx, Bool.and_eq_true, decide_eq_true_eq] at e; omega
  have v5 : validTx t = true → fitsOf t.hashes t.blobs = 0 := fun e => by simp only [validTx, Bool.and_eq_true, decide_eq_true_eq] at e; exact e.1.2
  have v6 : validTx t = true → costOf t < U := fun e => by simp only [validTx, Bool.and_eq_true, decide_eq_true_eq] at e; exact e.2
  have fin : ∀ {C : Cfg} {σ : ASt}, validTx t = false → resOf C σ Try.f32.results.toList = some (.bool false) → BodyPost C Try.f32.results.toList (.bool (validTx t)) .ret σ := fun hv hr => by
    rw [hv]
    exact finOne hr (fun _ e => by cases e)
  simp only [go_sem, seval, TxD.av, TxD.cells, ints, strs, List.length_map]
  refine ex_call (c_Num t.frm 7) ?_
  cases b1 : (decide (0 ≤ t.frm) && decide (t.frm ≤ 7))
  · simp only [go_sem, seval]
    refine fin (bad v1 (by simp at b1; omega)) ?_
    show resOf _ _ [.tmp 2] = _
    simp only [go_sem, seval]
  simp only [go_sem, seval]
  refine ex_call (c_Num t.nonce 1099511627776) ?_
  cases b2 : (decide (0 ≤ t.nonce) && decide (t.nonce ≤ 1099511627776))
  · simp only [go_sem, seval]
    refine fin (bad v2 (by simp at b2; omega)) ?_
    show resOf _ _ [.tmp 2] = _
    simp only [go_sem, seval]
  simp only [go_sem, seval]
  refine ex_call (c_Num t.gas 1073741824) ?_
  cases b3 : (decide (0 ≤ t.gas) && decide (t.gas ≤ 1073741824))
  · simp only [go_sem, seval]
    refine fin (bad v3 (by simp at b3; omega)) ?_
    show resOf _ _ [.tmp 2] = _
    simp only [go_sem, seval]
  simp only [go_sem, seval]
  refine ex_call (by exact c_ref1_Cmp t.tip t.cap h.tip h.cap) ?_
  simp only [go_sem, seval, cmp_le]
  refine ex_split (fun b4 => ?_) (fun b4 => ?_)
  case' refine_2 =>
    simp only [go_sem, seval, b4]
    refine fin (bad v4 (by simp at b4; omega)) ?_
    show resOf _ _ [.tmp 2] = _
    simp only [go_sem, seval]
  simp only [go_sem, seval]
  refine ex_call (by exact c_ref4_Fits t.hashes t.blobs h.blob) ?_
  rcases Decidable.em (fitsOf t.hashes t.blobs = 0) with b5 | b5
  case' inr =>
    have b5' : (fitsOf t.hashes t.blobs != 0) = true := by simpa using b5
    simp only [go_sem, seval, b5']
    refine fin (bad v5 b5) ?_
    show resOf _ _ [.tmp 2] = _
    simp only [go_sem, seval]
  have hl := fits_len b5
  have hgas : 0 ≤ t.gas ∧ t.gas ≤ 1073741824 := by simp at b3; omega
  simp only [go_sem, seval, b5]
  refine ex_call (by exact c_ref7_Cost t h hgas hl.2.1) ?_
  have hv : validTx t = decide (costOf t < U) := by
    rw [Bool.eq_iff_iff]
    simp only [validTx, Bool.and_eq_true, decide_eq_true_eq]
    simp at b1 b2 b4
    constructor
    · intro e; exact e.2
    · intro e; refine ⟨⟨⟨⟨⟨⟨?_, ?_⟩, ?_, ?_⟩, ?_, ?_⟩, ?_⟩, b5⟩, e⟩ <;> omega
  rw [hv]
  simp only [go_sem, seval, u]
  refine finOne ?_ (fun _ e => by cases e)
  show resOf _ _ [.tmp 2] = _
  simp only [go_sem, seval]
end Go.Proofs.Ytdenldjlijoeoaa.VA
end
section
/- Copies of rows of marks and of texts. -/
namespace Go.Proofs.Ytdenldjlijoeoaa.VA
set_option maxRecDepth 10000
set_option linter.unusedSimpArgs false
set_option linter.unusedVariables false
set_option maxHeartbeats 4000000

end Go.Proofs.Ytdenldjlijoeoaa.VA
end
section
/- Transactions: copies, weights, plain ones. -/
namespace Go.Proofs.Ytdenldjlijoeoaa.VA
set_option maxRecDepth 10000
set_option linter.unusedSimpArgs false
set_option linter.unusedVariables false
set_option maxHeartbeats 8000000

def TxD.dull (t : TxD) : AV := .agg [.int .i64 t.frm, .int .i64 t.nonce, .int .u64 (lim t.tip 0), .int .u64 (lim t.tip 1), .int .u64 (lim t.tip 2), .int .u64 (lim t.tip 3), .int .u64 (lim t.cap 0), .int .u64 (lim t.cap 1), .int .u64 (lim t.cap 2), .int .u64 (lim t.cap 3), .int .u64 (lim t.bcap 0), .int .u64 (lim t.bcap 1), .int .u64 (lim t.bcap 2), .int .u64 (lim t.bcap 3), .int .u64 (lim t.value 0), .int .u64 (lim t.value 1), .int .u64 (lim t.value 2), .int .u64 (lim t.value 3), .int .i64 t.gas, .sl true 1 (t.hashes.map (AV.int .u64)), .sl true 1 (t.blobs.map AV.str)]
theorem TxD.dull_av (t : TxD) : Dull t.dull t.av := by
  refine dulls_agg ?_
  repeat' (first | exact Dulls.nil | exact Dull.refl _ | exact dsl _ _ _ | refine Dulls.cons ?_ ?_)
/-- How much the texts of a transaction weigh. -/
def weigh : Int → List (List UInt8) → Int
  | n, [] => n
  | n, b :: bs => if n < 1048576 then weigh (n + b.length) bs else n
def weightOf (t : TxD) : Int := weigh (1 + t.hashes.length + t.blobs.length) t.blobs
theorem weigh_drop {n : Int} {bs : List (List UInt8)} {i : Nat} {b : List UInt8} (e : bs[i]? = some b) (h : n < 1048576) : weigh n (bs.drop i) = weigh (n + b.length) (bs.drop (i + 1)) := by
  obtain ⟨hi, rfl⟩ := List.getElem?_eq_some_iff.1 e
  rw [← List.getElem_cons_drop hi]
  simp only [weigh, if_pos h]
theorem weigh_end {n : Int} {bs : List (List UInt8)} (h : ¬ n < 1048576) : weigh n bs = n := by
  cases bs with
  | nil => rfl
  | cons b bs => simp only [weigh, if_neg h]
theorem c_TxWeight (t : TxD) (h : t.ok) : Contract Try.prog 26 [t.av] (.int .i64 (weightOf t)) := by
  refine contract_of (C := cf 33 [1, 2, 3, 4, 21] (fun _ => [])) (cf_ok _ _ _) (fn := Try.f26) Try.func26 (by kernel_rfl) rfl (by kernel_rfl) (by simp [cf]) (plain1 t.plain) (by decide) (noCell (by kernel_rfl)) ?_
  have h1 := h.hashes
  have h2 := h.blobs
  unfold reachBytes at h1 h2
  have w1 : IntKind.i64.wrap (1 + (t.hashes.length : Int)) = 1 + (t.hashes.length : Int) := wi64 (by omega) (by omega)
  have w2 : IntKind.i64.wrap (1 + (t.hashes.length : Int) + (t.blobs.length : Int)) = 1 + (t.hashes.length : Int) + t.blobs.length := wi64 (by omega) (by omega)
  simp only [go_sem, seval, TxD.av, TxD.cells, ints, strs, List.length_map, w1, w2]
  refine ex_iter [1, 3, 4] (fun q : Nat × Int => ⟨[(1, .var 1 0), (3, .int .i64 q.2), (4, .int .i64 q.1)], [(1, [.int .i64 t.frm, .int .i64 t.nonce, .int .u64 (lim t.tip 0), .int .u64 (lim t.tip 1), .int .u64 (lim t.tip 2), .int .u64 (lim t.tip 3), .int .u64 (lim t.cap 0), .int .u64 (lim t.cap 1), .int .u64 (lim t.cap 2), .int .u64 (lim t.cap 3), .int .u64 (lim t.bcap 0), .int .u64 (lim t.bcap 1), .int .u64 (lim t.bcap 2), .int .u64 (lim t.bcap 3), .int .u64 (lim t.value 0), .int .u64 (lim t.value 1), .int .u64 (lim t.value 2), .int .u64 (lim t.value 3), .int .i64 t.gas, .sl false 1 (t.hashes.map (AV.int .u64)), .sl false 1 (t.blobs.map AV.str)])], []⟩)
    (fun q => q.1 ≤ t.blobs.length ∧ 0 ≤ q.2 ∧ q.2 ≤ 281474976710656 ∧ weigh q.2 (t.blobs.drop q.1) = weightOf t) (fun q => t.blobs.length - q.1) (0, 1 + (t.hashes.length : Int) + t.blobs.length) ?_ ?_ ?_
  · simp only [ASt.keep, consIf, keepL, keepV, AV.isBot, List.contains_cons, List.contains_nil, Nat.reduceBEq, Bool.or_false, Bool.false_or, Bool.or_true, Bool.true_or, beq_self_eq_true, Bool.false_eq_true, ↓reduceIte, if_false, if_true]
    rfl
  · exact ⟨Nat.zero_le _, by simp only; omega, by simp only; omega, rfl⟩
  · rintro r ⟨i, n⟩ hinv next
    obtain ⟨hi, hn1, hn2, hw⟩ : i ≤ t.blobs.length ∧ 0 ≤ n ∧ n ≤ 281474976710656 ∧ weigh n (t.blobs.drop i) = weightOf t := hinv
    simp only [go_sem, seval, List.length_map]
    refine ex_joinB 21 (decide (i < t.blobs.length) && decide (n < 1048576)) ?_ ?_
    · repeat' (first | (refine ex_split (fun h => ?_) (fun h => ?_)) | (with_reducible refine And.intro (by omega) ?_) |
        (simp only [go_sem, seval, List.length_map]))
      all_goals (try simp only [ASt.mk.injEq, List.cons.injEq, Prod.mk.injEq, AV.bool.injEq, true_and, and_true, eq_self])
      all_goals first | (simp_all; done) | (simp_all; omega) | (rw [Bool.eq_iff_iff]; simp only [List.length_map, Bool.or_eq_true, Bool.and_eq_true, Bool.not_eq_true', Bool.not_eq_false', decide_eq_true_eq, decide_eq_false_iff_not, bne_iff_ne, beq_iff_eq, ne_eq, true_iff, iff_true, false_iff, iff_false, Bool.false_eq_true, not_false_eq_true, not_true_eq_false] at *; omega)
    simp only [go_sem, seval]
    refine ex_br (fun hc => ?_) (fun hc => ?_)
    · have hlt : i < t.blobs.length ∧ n < 1048576 := by simpa using hc
      obtain ⟨b, eb⟩ : ∃ b, t.blobs[i]? = some b := ⟨_, List.getElem?_eq_getElem hlt.1⟩
      have hb := h.blob b (List.mem_of_getElem? eb)
      unfold reachBytes at hb
      have w3 : IntKind.i64.wrap (n + (b.length : Int)) = n + b.length := wi64 (by omega) (by omega)
      simp only [go_sem, seval, List.length_map, List.getElem?_map, eb, Int.toNat_natCast, w3]
      repeat with_reducible refine And.intro (by first | omega | (simp only [List.length_cons, List.length_append, List.length_nil, List.length_map, List.length_take, List.length_drop, List.length_set]; omega)) ?_
      refine next (i + 1, n + b.length) _ ⟨by simp only; omega, by simp only; omega, by simp only; omega, by simp only; rw [← weigh_drop eb hlt.2]; exact hw⟩ (by simp only; omega) ?_
      simp only
      rw [← wi64_nat i (by omega)]
      simp only [ASt.keep, consIf, keepL, keepV, AV.isBot, List.contains_cons, List.contains_nil, Nat.reduceBEq, Bool.or_false, Bool.false_or, Bool.or_true, Bool.true_or, beq_self_eq_true, Bool.false_eq_true, ↓reduceIte, if_false, if_true]
    · have e : weightOf t = n := by
        rw [← hw]
        by_cases h1 : n < 1048576
        · have : i = t.blobs.length := by simp [h1] at hc; omega
          rw [this, List.drop_length]; rfl
        · exact weigh_end h1
      simp only [go_sem, seval, e]
      refine finOne ?_ (fun _ e => by cases e)
      show resOf _ _ [.tmp 2] = _
      simp only [go_sem, seval]

theorem weigh_bounds (bs : List (List UInt8)) (hb : ∀ b ∈ bs, b.length ≤ reachBytes) : ∀ n : Int, 0 ≤ n → n ≤ 281474976710656 → 0 ≤ weigh n bs ∧ weigh n bs ≤ 281474976710656 := by
  induction bs with
  | nil => intro n h1 h2; exact ⟨h1, h2⟩
  | cons b bs ih =>
    intro n h1 h2
    simp only [weigh]
    have := hb b (by simp)
    unfold reachBytes at this
    split
    · exact ih (fun x hx => hb x (List.mem_cons_of_mem _ hx)) _ (by omega) (by omega)
    · exact ⟨h1, h2⟩
theorem weightOf_bounds (t : TxD) (h : t.ok) : 0 ≤ weightOf t ∧ weightOf t ≤ 281474976710656 := by
  have h1 := h.hashes
  have h2 := h.blobs
  unfold reachBytes at h1 h2
  exact weigh_bounds _ h.blob _ (by omega) (by omega)
theorem lims_small (g : Nat) (hg : g < 18446744073709551616) : lim g 0 = g ∧ lim g 1 = 0 ∧ lim g 2 = 0 ∧ lim g 3 = 0 := by
  have h := u_small g hg
  unfold u at h
  injection h with h
  injection h with h0 h
  injection h with h1 h
  injection h with h2 h
  injection h with h3 h
  injection h0 with _ h0
  injection h1 with _ h1
  injection h2 with _ h2
  injection h3 with _ h3
  exact ⟨h0, h1, h2, h3⟩
/-- A plain transaction. -/
def plainTx (f n : Int) (p : Nat) : TxD := ⟨f, n, p, 2 * p, p, 0, 1, [hashOf [98]], [[98]]⟩
theorem c_T (f n : Int) (p : Nat) (hp : 2 * p < 18446744073709551616) : Contract Try.prog 35 [.int .i64 f, .int .i64 n, .int .u64 p] (plainTx f n p).av := by
  refine contract_of (C := cf 20 [0, 1, 2, 6] (fun _ => [])) (cf_ok _ _ _) (fn := Try.f35) Try.func35 (by kernel_rfl) rfl (by kernel_rfl) (by simp [cf]) (plain3 (.int _ _) (.int _ _) (.int _ _)) (by decide) (cellsOk (by kernel_rfl)) ?_
  have w : IntKind.u64.wrap (2 * (p : Int)) = ((2 * p : Nat) : Int) := by rw [wu64 (by omega) (by omega)]; omega
  simp only [go_sem, seval, w]
  refine ex_call (by exact c_ref4_Hash [98] (by decide)) ?_
  simp only [go_sem, seval]
  have l1 := lims_small p (by omega)
  have l2 := lims_small (2 * p) hp
  have l0 := lims_small 0 (by decide)
  have l3 : lim 0 0 = 0 := l0.1
  refine finOneD (r' := .agg [.int .i64 f, .int .i64 n, .int .u64 p, .int .u64 0, .int .u64 0, .int .u64 0, .int .u64 (2 * p : Nat), .int .u64 0, .int .u64 0, .int .u64 0, .int .u64 p, .int .u64 0, .int .u64 0, .int .u64 0, .int .u64 0, .int .u64 0, .int .u64 0, .int .u64 0, .int .i64 1, .sl true 1 [.int .u64 (hashOf [98])], .sl true 1 [.str [98]]]) ?_ ?_ (fun _ e => by cases e) (fun _ e => by cases e)
  · show resOf _ _ [.cell 6 49] = _
    simp only [go_sem, seval]
  · unfold TxD.av TxD.cells plainTx
    simp only [l1, l2, l0, l3, ints, strs, List.map_cons, List.map_nil]
    refine dulls_agg ?_
    repeat' (first | exact Dulls.nil | exact Dull.refl _ | exact dsl _ _ _ | refine Dulls.cons ?_ ?_)
theorem plain_ok (f n : Int) (p : Nat) (hf : -9223372036854775808 ≤ f ∧ f ≤ 9223372036854775807) (hn : -9223372036854775808 ≤ n ∧ n ≤ 9223372036854775807) (hp : 2 * p < 18446744073709551616) : (plainTx f n p).ok :=
  ⟨hf, hn, by simp only [plainTx]; omega, by simp only [plainTx, U]; omega, by simp only [plainTx, U]; omega, by simp only [plainTx, U]; omega, by simp only [plainTx, U]; omega, by simp only [plainTx, reachBytes]; decide, by simp only [plainTx, reachBytes]; decide, fun b hb => by
    simp only [plainTx, List.mem_singleton] at hb
    subst hb; unfold reachBytes; decide⟩
end Go.Proofs.Ytdenldjlijoeoaa.VA
end
section
/- tarnlaw0.Txs, Limbo: they write over rows of transactions, and over nothing else. -/
namespace Go.Proofs.Ytdenldjlijoeoaa.VA
open Go.RowKit
set_option linter.unusedSimpArgs false
set_option linter.unusedVariables false

theorem dull_wide (t : TxD) : Wide t.dull := .agg _ fun c hc => by
  simp only [List.mem_cons, List.not_mem_nil, or_false] at hc
  rcases hc with rfl | rfl | rfl | rfl | rfl | rfl | rfl | rfl | rfl | rfl | rfl | rfl | rfl | rfl | rfl | rfl | rfl | rfl | rfl | rfl | rfl <;> first | exact .int _ _ | exact .sl _ _ _ (by decide) (fun c hc => by obtain ⟨x, _, rfl⟩ := List.mem_map.1 hc; first | exact .int _ _ | exact .str _)
theorem kinV_refl (v : Value) : KinV v v := ⟨rfl, fun j u u' h1 h2 => by rw [h1] at h2; cases h2; exact .same _⟩
/-- What an element's cells may turn to. -/
inductive KZ : AV → Value → Prop
  | int (k : IntKind) (n m : Int) : KZ (.int k n) (.int k m)
  | str (s : List UInt8) (t : ByteArray) : KZ (.str s) (.string t)
  | bool (a b : Bool) : KZ (.bool a) (.bool b)
  | sl (fr : Bool) (sz : Nat) (es : List AV) : KZ (.sl fr sz es) (.slice none 0 0)
theorem KZ.kin {M : Nat → Prop} {I : Imm} {c : AV} {u z : Value} (h : KZ c z) (ha : AR M I c u) : Kin u z := by
  cases h with
  | int k n m => cases ha; exact .int _ _ _
  | str s t => cases ha; exact .str _ _
  | bool a b => cases ha; exact .bool _ _
  | sl fr sz es => cases ha <;> exact .nil _ _ _
theorem kz_nil : ∀ (j : Nat) c z, ([] : List AV)[j]? = some c → ([] : List Value)[j]? = some z → KZ c z := fun j c z h => by cases h
theorem kz_cons {x : AV} {z : Value} {xs : List AV} {zs : List Value} (h : KZ x z) (hr : ∀ (j : Nat) c z, xs[j]? = some c → zs[j]? = some z → KZ c z) : ∀ (j : Nat) c u, (x :: xs)[j]? = some c → (z :: zs)[j]? = some u → KZ c u := fun j c u hc hu => by
  cases j with
  | zero =>
    simp only [List.getElem?_cons_zero, Option.some.injEq] at hc hu
    subst hc hu; exact h
  | succ j => exact hr j c u (by simpa using hc) (by simpa using hu)
/-- The cells of an element, as they stand now. -/
theorem elem_now {I : Imm} {B : Nat → Prop} {w0 w : World} (h : SpG I B w0 w) {b off sz : Nat} {v : Value} (hb : B b) (hs : v.cells.size = sz) (hI : ∀ (j : Nat) c, v.cells[j]? = some c → I b (off + j) = some c) :
    ∃ us : List Value, us.length = sz ∧ (∀ j, j < sz → w.cell? ⟨b, off + j, none⟩ = us[j]? ∧ w.frozen? ⟨b, off + j, none⟩ = false) ∧ ∀ (j : Nat) u u', v.cells[j]? = some u → us[j]? = some u' → Kin u u' := by
  refine ⟨(List.range sz).map fun j => (w.cell? ⟨b, off + j, none⟩).getD undef, by simp, fun j hj => ?_, fun j u u' hu hu' => ?_⟩
  · obtain ⟨u', h1, h2, _⟩ := h.sp.cells b (off + j) _ hb (hI j _ (Array.getElem?_eq_getElem (by omega)))
    refine ⟨?_, h2⟩
    rw [List.getElem?_map, List.getElem?_range hj, h1]
    simp [h1]
  · have hj : j < sz := by rw [← hs]; exact (Array.getElem?_eq_some_iff.1 hu).1
    obtain ⟨u2, h1, _, h3⟩ := h.sp.cells b (off + j) u hb (hI j u hu)
    rw [List.getElem?_map, List.getElem?_range hj] at hu'
    simp only [Option.map_some, Option.some.injEq, h1, Option.getD_some] at hu'
    subst hu'; exact h3
/-- An element is written over. -/
theorem elem_write {I : Imm} {B : Nat → Prop} {w0 w : World} (h : SpG I B w0 w) {b off sz : Nat} {e : AV} {v z : Value} (hb : B b) (hv : AR B I e v) (hs : v.cells.size = sz) (hI : ∀ (j : Nat) c, v.cells[j]? = some c → I b (off + j) = some c)
    (hz : z.cells.size = sz) (hk : ∀ (j : Nat) c u, e.flat[j]? = some c → z.cells.toList[j]? = some u → KZ c u) : SpG I B w0 (w.setCells b off z.cells.toList) := by
  refine h.write hb (fun j hj => ?_) fun j u u' hu hu' => ?_
  · have hj : j < v.cells.size := by rw [hs, ← hz]; simpa using hj
    obtain ⟨u', h1, _, _⟩ := h.sp.cells b (off + j) _ hb (hI j _ (Array.getElem?_eq_getElem hj))
    rw [h1]; rfl
  · have hj : j < v.cells.size := by
      have := (List.getElem?_eq_some_iff.1 hu').1
      rw [hs, ← hz]; simpa using this
    have h1 := hI j _ (Array.getElem?_eq_getElem hj)
    rw [hu] at h1
    cases h1
    have hf : j < e.flat.length := by rw [hv.flen]; exact hj
    exact (hk j _ u' (List.getElem?_eq_getElem hf) hu').kin (hv.fcell j _ _ (List.getElem?_eq_getElem hf) (Array.getElem?_eq_getElem hj))

def zeroT : Value := .agg #[.int .i64 (-9), .int .i64 0, .int .u64 0, .int .u64 0, .int .u64 0, .int .u64 0, .int .u64 0, .int .u64 0, .int .u64 0, .int .u64 0, .int .u64 0, .int .u64 0, .int .u64 0, .int .u64 0, .int .u64 0, .int .u64 0, .int .u64 0, .int .u64 0, .int .i64 0, .slice none 0 0, .slice none 0 0]
theorem kz_tx (t : TxD) : ∀ (j : Nat) c u, t.dull.flat[j]? = some c → zeroT.cells.toList[j]? = some u → KZ c u := by
  refine kz_cons (.int _ _ _) (kz_cons (.int _ _ _) ?_)
  repeat' (first | exact kz_nil | exact KZ.int _ _ _ | exact KZ.sl _ _ _ | refine kz_cons ?_ ?_)
set_option maxHeartbeats 8000000 in
set_option maxRecDepth 1000000 in
theorem dulls_wide (l : List TxD) : Wide (.sl true 21 (l.map TxD.dull)) := .sl _ _ _ (by decide) fun c hc => by
  obtain ⟨t, _, rfl⟩ := List.mem_map.1 hc
  exact dull_wide t
end Go.Proofs.Ytdenldjlijoeoaa.VA
end
section
/- One item out of bytes, of new memory alone. -/
namespace Go.Proofs.Ytdenldjlijoeoaa.VA
set_option maxRecDepth 10000
set_option linter.unusedSimpArgs false
set_option linter.unusedVariables false
set_option maxHeartbeats 16000000

mutual
def ItemD.avT : ItemD → AV
  | .mk l t xs => .agg [.bool l, .str t, .sl true 3 (ItemD.avTs xs)]
def ItemD.avTs : List ItemD → List AV
  | [] => []
  | x :: xs => ItemD.avT x :: ItemD.avTs xs
end
theorem avTs_map : ∀ xs : List ItemD, ItemD.avTs xs = xs.map ItemD.avT
  | [] => by rw [ItemD.avTs]; rfl
  | x :: xs => by rw [ItemD.avTs, avTs_map xs]; rfl
def ItemD.cellsT (it : ItemD) : List AV := [.bool it.list, .str it.text, .sl true 3 (it.items.map ItemD.avT)]
theorem ItemD.avT_eq (it : ItemD) : it.avT = .agg it.cellsT := by
  cases it with
  | mk l t xs => rw [ItemD.avT, avTs_map]; rfl
theorem dull_noneT (l : Bool) (t : List UInt8) : Dull (.agg [.bool l, .str t, .ext nilP]) (.agg [.bool l, .str t, .sl true 3 []]) := dulls_agg (.cons (.refl _) (.cons (.refl _) (.cons (.nil _ _) .nil)))
def resPT : Except Nat (ItemD × Nat) → AV
  | .error e => .tup [.agg [.bool false, .str [], .sl true 3 []], .int .i64 (0 : Int), .int .i64 (e : Int)]
  | .ok (it, k) => .tup [.agg [.bool it.list, .str it.text, .sl true 3 (it.items.map ItemD.avT)], .int .i64 (k : Int), .int .i64 (0 : Int)]
mutual
theorem avT_dull : ∀ it : ItemD, Dull it.avT it.av
  | .mk l t xs => by
    rw [ItemD.avT, ItemD.av]
    exact dulls_agg (.cons (.refl _) (.cons (.refl _) (.cons (.sl true 3 _ _ (dulls_get (avTs_dull xs)).1 (dulls_get (avTs_dull xs)).2) .nil)))
theorem avTs_dull : ∀ xs : List ItemD, Dulls (ItemD.avTs xs) (ItemD.avs xs)
  | [] => by rw [ItemD.avTs, ItemD.avs]; exact .nil
  | x :: xs => by rw [ItemD.avTs, ItemD.avs]; exact .cons (avT_dull x) (avTs_dull xs)
end
theorem c_oneT (N : Nat) : ∀ (s : List UInt8) (d : Nat), s.length ≤ N → s.length ≤ 16777216 → d ≤ 16 → Contract Try.prog 22 [.str s, .int .i64 d] (resPT (oneR d s)) := by
  induction N using Nat.strongRecOn with
  | _ N ih =>
    intro s d hN hs hd
    have hr := c_item_read s (by omega)
    have wd : IntKind.i64.wrap ((d : Int) + 1) = ((d + 1 : Nat) : Int) := wi64_nat d (by omega)
    cases hh : hdOf s with
    | error e =>
      have he := hd_err hh
      have e0 : ((e : Int) != 0) = true := by rcases he with rfl | rfl <;> rfl
      have ho : oneR d s = .error e := by unfold oneR; rw [hh]
      rw [ho]
      rw [hh] at hr
      unfold hdRes at hr
      refine contract_of (C := cf 104 [0, 1, 4, 5, 6, 7, 8, 9, 10, 11, 12, 19, 27, 39, 45, 63, 81, 91] (fun _ => [])) (cf_ok _ _ _) (fn := Try.f22) Try.func22 (by kernel_rfl) rfl (by kernel_rfl) (by simp [cf]) (plain2 (.str _) (.int _ _)) (by decide) (cellsOk (by kernel_rfl)) ?_
      simp only [go_sem, seval]
      refine ex_call (by exact hr) ?_
      simp only [go_sem, seval, e0]
      refine finTupD (vs' := [.agg [.bool false, .str [], .ext nilP], .int .i64 (0 : Int), .int .i64 (e : Int)]) ?_ (fins3 (dull_noneT _ _) _)
      show resOf _ _ [.cell 4 26, .tmp 5, .tmp 6] = _
      simp only [go_sem, seval]
    | ok r =>
      obtain ⟨l, f, n⟩ := r
      obtain ⟨b1, b2, b3⟩ := hd_bounds hh
      rw [hh] at hr
      unfold hdRes at hr
      have wfn : IntKind.i64.wrap ((f : Int) + (n : Int)) = ((f + n : Nat) : Int) := by rw [wi64 (by omega) (by omega)]; omega
      have hsub : f + n - f = n := by omega
      refine contract_of (C := cf 104 [0, 1, 4, 5, 6, 7, 8, 9, 10, 11, 12, 19, 27, 39, 45, 63, 81, 91] (fun _ => [])) (cf_ok _ _ _) (fn := Try.f22) Try.func22 (by kernel_rfl) rfl (by kernel_rfl) (by simp [cf]) (plain2 (.str _) (.int _ _)) (by decide) (cellsOk (by kernel_rfl)) ?_
      simp only [go_sem, seval]
      refine ex_call (by exact hr) ?_
      unfold oneR
      rw [hh]
      simp only
      rcases Decidable.em ((l = true ∧ 16 ≤ d) ∨ 65536 < f + n) with h1 | h1
      · rw [if_pos h1]
        have e1 : decide (((f + n : Nat) : Int) > 65536) = decide (65536 < f + n) := decide_congr (by omega)
        have e2 : decide ((d : Int) ≥ 16) = decide (16 ≤ d) := decide_congr (by omega)
        have e3 : (l && decide (16 ≤ d) || decide (65536 < f + n)) = true := by
          cases l <;> simp_all
        simp only [go_sem, seval, wfn]
        refine ex_joinB 27 (l && decide (16 ≤ d) || decide (65536 < f + n)) ?_ ?_
        · repeat' (first | (refine ex_split (fun h => ?_) (fun h => ?_)) | (with_reducible refine And.intro (by omega) ?_) |
            (simp only [go_sem, seval, wfn, e1, e2]))
          all_goals (try simp only [ASt.mk.injEq, List.cons.injEq, Prod.mk.injEq, AV.bool.injEq, true_and, and_true, eq_self])
          all_goals first | (simp_all; done) | (simp_all; omega) | (rw [Bool.eq_iff_iff]; simp only [List.length_map, Bool.or_eq_true, Bool.and_eq_true, Bool.not_eq_true', Bool.not_eq_false', decide_eq_true_eq, decide_eq_false_iff_not, bne_iff_ne, beq_iff_eq, ne_eq, true_iff, iff_true, false_iff, iff_false, Bool.false_eq_true, not_false_eq_true, not_true_eq_false] at *; omega)
        rw [e3]
        simp only [go_sem, seval]
        refine finTupD (vs' := [.agg [.bool false, .str [], .ext nilP], .int .i64 (0 : Int), .int .i64 (1 : Int)]) ?_ (fins3 (dull_noneT _ _) _)
        show resOf _ _ [.cell 4 26, .tmp 5, .tmp 6] = _
        simp only [go_sem, seval]
      · rw [if_neg h1]
        have h2 : ¬ 65536 < f + n := fun h => h1 (.inr h)
        have e1 : decide (((f + n : Nat) : Int) > 65536) = false := decide_eq_false (by omega)
        rcases Decidable.em (s.length < f + n) with h3 | h3
        · rw [if_pos h3]
          have e3 : decide (((f + n : Nat) : Int) > (s.length : Int)) = true := decide_eq_true (by omega)
          cases l with
          | false =>
            simp only [go_sem, seval, wfn, e1, e3]
            refine finTupD (vs' := [.agg [.bool false, .str [], .ext nilP], .int .i64 (0 : Int), .int .i64 (7 : Int)]) ?_ (fins3 (dull_noneT _ _) _)
            show resOf _ _ [.cell 4 26, .tmp 5, .tmp 6] = _
            simp only [go_sem, seval]
          | true =>
            have e2 : decide ((d : Int) ≥ 16) = false := decide_eq_false fun h => h1 (.inl ⟨rfl, by omega⟩)
            simp only [go_sem, seval, wfn, e1, e2, e3]
            refine finTupD (vs' := [.agg [.bool false, .str [], .ext nilP], .int .i64 (0 : Int), .int .i64 (7 : Int)]) ?_ (fins3 (dull_noneT _ _) _)
            show resOf _ _ [.cell 4 26, .tmp 5, .tmp 6] = _
            simp only [go_sem, seval]
        · rw [if_neg h3]
          have e3 : decide (((f + n : Nat) : Int) > (s.length : Int)) = false := decide_eq_false (by omega)
          have hlen : ((s.drop f).take n).length = n := by rw [List.length_take, List.length_drop]; omega
          cases l with
          | false =>
            rw [if_pos rfl]
            have ha := c_item_alone ((s.drop f).take n) (by omega)
            rcases Decidable.em (0 < f) with h4 | h4
            · have e4 : decide ((f : Int) > 0) = true := decide_eq_true (by omega)
              simp only [go_sem, seval, wfn, e1, e3, e4, Int.toNat_natCast, hsub]
              refine ⟨by omega, ?_⟩
              refine ex_call (by exact ha) ?_
              cases hal : aloneB ((s.drop f).take n) with
              | true =>
                rw [if_pos ⟨h4, rfl⟩]
                simp only [go_sem, seval]
                refine finTupD (vs' := [.agg [.bool false, .str [], .ext nilP], .int .i64 (0 : Int), .int .i64 (1 : Int)]) ?_ (fins3 (dull_noneT _ _) _)
                show resOf _ _ [.cell 4 26, .tmp 5, .tmp 6] = _
                simp only [go_sem, seval]
              | false =>
                rw [if_neg (fun h => by cases h.2)]
                simp only [go_sem, seval, Int.toNat_natCast, hsub]
                refine ⟨by omega, ?_⟩
                refine finTupD (vs' := [.agg [.bool false, .str ((s.drop f).take n), .ext nilP], .int .i64 ((f + n : Nat) : Int), .int .i64 (0 : Int)]) ?_ (fins3 (dull_noneT _ _) _)
                show resOf _ _ [.cell 4 26, .tmp 5, .tmp 6] = _
                simp only [go_sem, seval]
            · have e4 : decide ((f : Int) > 0) = false := decide_eq_false (by omega)
              rw [if_neg (fun h => h4 h.1)]
              simp only [go_sem, seval, wfn, e1, e3, e4, Int.toNat_natCast, hsub]
              refine ⟨by omega, ?_⟩
              refine finTupD (vs' := [.agg [.bool false, .str ((s.drop f).take n), .ext nilP], .int .i64 ((f + n : Nat) : Int), .int .i64 (0 : Int)]) ?_ (fins3 (dull_noneT _ _) _)
              show resOf _ _ [.cell 4 26, .tmp 5, .tmp 6] = _
              simp only [go_sem, seval]
          | true =>
            have hf := b3 rfl
            have hd16 : d < 16 := by
              rcases Nat.lt_or_ge d 16 with h | h
              · exact h
              · exact absurd (.inl ⟨rfl, h⟩) h1
            have e2 : decide ((d : Int) ≥ 16) = false := decide_eq_false (by omega)
            rw [if_neg (by simp)]
            obtain ⟨body, hbody⟩ : ∃ body, body = (s.drop f).take n := ⟨_, rfl⟩
            rw [← hbody] at hlen ⊢
            simp only [go_sem, seval, wfn, e1, e2, e3, Int.toNat_natCast, hsub]
            refine ⟨by omega, ?_⟩
            rw [← hbody]
            refine ex_iter [1, 4, 8, 9] (fun q : List ItemD × List UInt8 => ⟨[(1, .int .i64 d), (4, .var 4 0), (8, .int .i64 (f + n : Nat)), (9, .str q.2)], [(4, [.bool true, .str [], .own false 3 (q.1.map ItemD.avT)])], []⟩)
              (fun q => q.1.length + q.2.length ≤ n ∧ itemsP (d + 1) body = (itemsP (d + 1) q.2).map (q.1 ++ ·)) (fun q => q.2.length) ([], body) ?_ ?_ ?_
            · simp only [ASt.keep, consIf, keepL, keepV, AV.isBot, List.contains_cons, List.contains_nil, Nat.reduceBEq, Bool.or_false, Bool.false_or, Bool.or_true, Bool.true_or, beq_self_eq_true, Bool.false_eq_true, ↓reduceIte, if_false, if_true]
              rfl
            · refine ⟨by simp only [List.length_nil]; omega, ?_⟩
              cases itemsP (d + 1) body <;> rfl
            · rintro r ⟨xs, rest⟩ ⟨hq1, hq2⟩ next
              simp only at hq1 hq2
              simp only [go_sem, seval]
              refine ex_br (fun hc => ?_) (fun hc => ?_)
              · have hne : rest ≠ [] := by rintro rfl; simp at hc
                have hone := items_one (d := d + 1) hne
                have hcall := ih rest.length (by omega) rest (d + 1) (Nat.le_refl _) (by omega) (by omega)
                have hp := one_parse (d + 1) rest
                simp only [go_sem, seval, wd]
                cases ho : oneR (d + 1) rest with
                | error e =>
                  rw [ho] at hcall hone hp
                  have he0 : ((e : Int) != 0) = true := by
                    unfold oneR at ho
                    cases hh2 : hdOf rest with
                    | error e2 =>
                      rw [hh2] at ho
                      cases ho
                      rcases hd_err hh2 with rfl | rfl <;> rfl
                    | ok r2 =>
                      obtain ⟨l2, f2, n2⟩ := r2
                      rw [hh2] at ho
                      simp only at ho
                      repeat' (split at ho)
                      all_goals first | (cases ho; rfl) | (cases ho; done)
                  have hnone : itemsP (d + 1) body = none := by rw [hq2, hone]; rfl
                  rw [hnone]
                  unfold resPT at hcall
                  refine ex_call (by exact hcall) ?_
                  simp only [go_sem, seval, he0]
                  refine finTupD (vs' := [.agg [.bool false, .str [], .ext nilP], .int .i64 (0 : Int), .int .i64 (1 : Int)]) ?_ (fins3 (dull_noneT _ _) _)
                  show resOf _ _ [.cell 4 26, .tmp 5, .tmp 6] = _
                  simp only [go_sem, seval]
                | ok r2 =>
                  obtain ⟨x, k⟩ := r2
                  rw [ho] at hcall hone hp
                  have hp : parse (d + 1) rest = .ok (x, k) := hp
                  have hpo := parse_ok hp
                  have hp1 := hpo.pos
                  have hp2 := hpo.le
                  unfold resPT at hcall
                  refine ex_call (by exact hcall) ?_
                  simp only [go_sem, seval]
                  refine ex_draw [9] [] (.quiet 0 (.quiet 1 (.quiet 2 (.quiet 5 (.quiet 6 (.quiet 7 (.one 3 (.one 4 (.quiet 8 (.unlock (.one 9 (.quiet 10 (.fin))))))))))))) (by kernel_rfl) ?_
                  simp only [go_sem, seval, List.length_map, Int.toNat_natCast]
                  repeat with_reducible refine And.intro (by first | omega | (simp only [List.length_cons, List.length_append, List.length_nil, List.length_map, List.length_take, List.length_drop, List.length_set]; omega)) ?_
                  refine next (xs ++ [x], rest.drop k) _ ?_ ?_ ?_
                  · refine ⟨by simp only [List.length_append, List.length_singleton, List.length_drop]; omega, ?_⟩
                    simp only
                    rw [hq2, hone]
                    simp only [Option.map_map]
                    congr 1
                    funext ys
                    simp
                  · simp only [List.length_drop]; omega
                  · simp only [ASt.keep, consIf, keepL, keepV, AV.isBot, List.contains_cons, List.contains_nil, Nat.reduceBEq, Bool.or_false, Bool.false_or, Bool.or_true, Bool.true_or, beq_self_eq_true, Bool.false_eq_true, ↓reduceIte, if_false, if_true]
                    simp only [List.map_append, List.map_cons, List.map_nil, ItemD.avT_eq, ItemD.cellsT]
                    rw [List.take_of_length_le (by simp)]
              · have hnil : rest = [] := by simpa using hc
                subst hnil
                have hsome : itemsP (d + 1) body = some xs := by rw [hq2, itemsP_nil]; simp
                rw [hsome]
                simp only [go_sem, seval]
                refine finTupD (vs' := [.agg [.bool true, .str [], .sl true 3 (xs.map ItemD.avT)], .int .i64 ((f + n : Nat) : Int), .int .i64 (0 : Int)]) ?_ (finsRefl _)
                show resOf _ _ [.cell 4 26, .tmp 5, .tmp 6] = _
                simp only [go_sem, seval]
theorem c_item_TakeT (s : List UInt8) (hs : s.length ≤ 16777216) : Contract Try.prog 6 [.str s] (resPT (parse 0 s)) := by
  have h := c_oneT s.length s 0 (Nat.le_refl _) hs (by omega)
  rw [one_zero] at h
  cases hp : parse 0 s with
  | error e =>
    rw [hp] at h
    unfold resPT at h
    refine contract_of (C := cf 10 [0, 2, 3, 4] (fun _ => [])) (cf_ok _ _ _) (fn := Try.f6) Try.func6 (by kernel_rfl) rfl (by kernel_rfl) (by simp [cf]) (plain1 (.str _)) (by decide) (cellsOk (by kernel_rfl)) ?_
    simp only [go_sem, seval]
    refine ex_call (by exact h) ?_
    simp only [go_sem, seval]
    refine finTup ?_
    show resOf _ _ [.cell 2 26, .tmp 3, .tmp 4] = _
    simp only [go_sem, seval]
  | ok r =>
    obtain ⟨it, k⟩ := r
    rw [hp] at h
    unfold resPT at h
    refine contract_of (C := cf 10 [0, 2, 3, 4] (fun _ => [])) (cf_ok _ _ _) (fn := Try.f6) Try.func6 (by kernel_rfl) rfl (by kernel_rfl) (by simp [cf]) (plain1 (.str _)) (by decide) (cellsOk (by kernel_rfl)) ?_
    simp only [go_sem, seval]
    refine ex_call (by exact h) ?_
    simp only [go_sem, seval]
    refine finTup ?_
    show resOf _ _ [.cell 2 26, .tmp 3, .tmp 4] = _
    simp only [go_sem, seval]end Go.Proofs.Ytdenldjlijoeoaa.VA
end
section
/- tarnlaw0.Item writes over an item's rows, and over nothing else. -/
namespace Go.Proofs.Ytdenldjlijoeoaa.VA
open Go.RowKit
set_option linter.unusedSimpArgs false
set_option linter.unusedVariables false

mutual
theorem avT_wide : ∀ it : ItemD, Wide it.avT
  | .mk l t xs => by
    rw [ItemD.avT]
    refine .agg _ fun c hc => ?_
    simp only [List.mem_cons, List.not_mem_nil, or_false] at hc
    rcases hc with rfl | rfl | rfl
    · exact .bool _
    · exact .str _
    · exact .sl _ _ _ (by decide) (avTs_wide xs)
theorem avTs_wide : ∀ (xs : List ItemD), ∀ c, c ∈ ItemD.avTs xs → Wide c
  | [] => fun c hc => by rw [ItemD.avTs] at hc; cases hc
  | x :: xs => fun c hc => by
    rw [ItemD.avTs] at hc
    rcases List.mem_cons.1 hc with rfl | hc
    · exact avT_wide x
    · exact avTs_wide xs c hc
end
theorem arr3 (a : Array Value) (h : a.size = 3) : ∃ c0 c1 c2, a = #[c0, c1, c2] := by
  rcases a with ⟨l⟩
  match l, h with
  | [c0, c1, c2], _ => exact ⟨c0, c1, c2, rfl⟩
def zeroI : Value := .agg #[.bool false, .string ⟨#[63]⟩, .slice none 0 0]
theorem kz_item (it : ItemD) : ∀ (j : Nat) c u, it.avT.flat[j]? = some c → zeroI.cells.toList[j]? = some u → KZ c u := by
  rw [ItemD.avT_eq]
  exact kz_cons (.bool _ _) (kz_cons (.str _ _) (kz_cons (.sl _ _ _) kz_nil))
/-- What tarnlaw0.Item does at an item as it stands now. -/
def ItemGoes (it : ItemD) : Prop := ∀ (I : Imm) (B : Nat → Prop) (w : World) (v v' : Value), AR B I it.avT v → KinV v v' → Sp I B w → (∀ b, B b → b < w.heap.size) → Calls Try.prog 10 #[v'] w fun e w' => e = .returned (.tuple #[]) ∧ SpG I B w w'
set_option maxHeartbeats 8000000 in
set_option maxRecDepth 1000000 in
theorem walk_Item (l : Bool) (t : List UInt8) (xs : List ItemD) (hn : xs.length ≤ 4611686018427387904) (ih : ∀ x ∈ xs, ItemGoes x) : ItemGoes (.mk l t xs) := by
  intro I B w v v' hx hk hs hB
  rw [ItemD.avT_eq] at hx
  have hx : AR B I (.agg [.bool l, .str t, .sl true 3 (xs.map ItemD.avT)]) v := hx
  cases hx with
  | agg _ vs0 hl0 h10 hcs0 =>
    have hl0 : 3 = vs0.size := hl0
    obtain ⟨vs', rfl, hs', hkk⟩ := hk.agg (by omega)
    obtain ⟨c0, c1, c2, rfl⟩ := arr3 vs' (by omega)
    have e2 := hcs0 2 _ _ rfl (Array.getElem?_eq_getElem (by omega))
    have k2 := hkk 2 _ _ (Array.getElem?_eq_getElem (by omega)) rfl
    obtain ⟨base, n, cap, rfl, hr⟩ := row_now e2 k2
    have hn2 : n ≤ 4611686018427387904 := by
      rcases hr with rfl | ⟨rfl, _⟩
      · omega
      · rw [List.length_map]; exact hn
    obtain ⟨W, hW⟩ : ∃ W : World, W = w.alloc (.cells #[c0, c1, .slice base n cap] 26) := ⟨_, rfl⟩
    have hg0 : SpG I B w W := by
      rw [hW]
      exact SpG.grow ⟨fr_refl _ _, hs⟩ (fr_alloc w _ fun j u _ => World.frozen?_alloc_new w _ _ j)
    have h2 : W.cell? ⟨w.heap.size, 2, none⟩ = some (.slice base n cap) := by rw [hW, World.cell?_alloc_new]; rfl
    clear hl0 h10 hcs0 hk hkk hs' e2 k2
    go_enter Try.func10, Try.ntmps10
    go_wp2
    rw [← hW]
    have hBk : ∀ b, B b → b ≠ w.heap.size := fun b hb e => by
      have := hB b hb
      omega
    clear hW hs
    obtain ⟨k0, hk0⟩ : ∃ k0, k0 = w.heap.size := ⟨_, rfl⟩
    rw [← hk0] at h2 hBk ⊢
    clear hk0
    refine wp_loop_ghost (fun m a w' => ∃ (i : Nat) (x3 x4 x5 x6 x7 x8 x9 x10 x11 x12 x13 x14 x15 x16 x17 x18 x19 x20 : Value), (i ≤ n ∧ m = n - i) ∧ a = { tmps := #[.agg #[c0, c1, .slice base n cap], .pointer (some ⟨k0, 0, none⟩), .int .i64 i, x3, x4, x5, x6, x7, x8, x9, x10, x11, x12, x13, x14, x15, x16, x17, x18, x19, x20], defers := [] } ∧ SpG I B w w' ∧ w'.cell? ⟨k0, 2, none⟩ = some (.slice base n cap)) n
      ⟨0, _, _, _, _, _, _, _, _, _, _, _, _, _, _, _, _, _, _, ⟨Nat.zero_le _, rfl⟩, rfl, hg0, h2⟩ ?_
    clear hg0 h2
    rintro m a w' ⟨i, x3, x4, x5, x6, x7, x8, x9, x10, x11, x12, x13, x14, x15, x16, x17, x18, x19, x20, ⟨hi, hmi⟩, rfl, hg, h2⟩
    have A : Aside (m = n - i) := hmi
    clear hmi
    rcases Nat.lt_or_ge i n with hlt | hge
    · rcases hr with rfl | ⟨hnl, b, o, rfl, hBb, vs, hv, hz, hI⟩
      · omega
      rw [List.length_map] at hnl
      obtain ⟨t1, et⟩ : ∃ t1, xs[i]? = some t1 := ⟨_, List.getElem?_eq_getElem (by omega)⟩
      have hto := ih t1 (List.mem_of_getElem? et)
      have hvi : AR B I t1.avT (vs i) := hv i _ (by rw [List.getElem?_map, et]; rfl)
      have hzi := hz i (by rw [List.length_map]; omega)
      have hIi : ∀ (j : Nat) c, (vs i).cells[j]? = some c → I b (o + i * 3 + j) = some c := fun j c hj => hI i j c (by rw [List.length_map]; omega) hj
      obtain ⟨us, u1, u2, u3⟩ := elem_now hg hBb hzi hIi
      have hfit := (cf_ok 0 [] (fun _ => [])).fit 26 (by rfl)
      have hload : (Go.loadVar 26 ⟨b, o + i * 3, none⟩).run Try.prog w' = .ok (.agg us.toArray) w' := loadVar_agg (n := 3) (fit_isAgg hfit w') (fit_sizeOf hfit w') us u1 fun j u hj => by
        rw [Addr.add_lit, (u2 j (by rw [← u1]; exact (List.getElem?_eq_some_iff.1 hj).1)).1]; exact hj
      have hkv : KinV (vs i) (.agg us.toArray) := ⟨by rw [hzi]; show 3 = us.toArray.size; simp [u1], fun j u u' hu hu' => u3 j u u' hu (by simpa [Value.cells] using hu')⟩
      have hcall := hto I B w' (vs i) (.agg us.toArray) hvi hkv hg.sp fun b hb => Nat.lt_of_lt_of_le (hB b hb) hg.fr.size
      have hst : ∀ w2, SpG I B w' w2 → (Instr.storeAt 26 (.pointer (some ⟨b, o + i * 3, none⟩)) zeroI).run Try.prog w2 = .ok () (w2.setCells b (o + i * 3) zeroI.cells.toList) := fun w2 hg2 =>
        (run_storeAt (n := 3) rfl (fit_sizeOf hfit w2) rfl (fun j hj => by
          obtain ⟨u', q1, q2, _⟩ := hg2.sp.cells b (o + i * 3 + j) _ hBb (hIi j _ (Array.getElem?_eq_getElem (by rw [hzi]; exact hj)))
          exact ⟨u', q1, q2⟩) (by decide)).1
      have hk0w : k0 < w'.heap.size := World.block_lt_of_cell? _ _ h2
      have h2' : ∀ w2, SpG I B w' w2 → w2.cell? ⟨k0, 2, none⟩ = some (.slice (some ⟨b, o, none⟩) n cap) := fun w2 hg2 => by
        rw [World.cell?_of_block (a := ⟨k0, 2, none⟩) (hg2.fr.block k0 hk0w fun e => hBk k0 e rfl)]; exact h2
      have Q : Aside ((SpG I B w w' ∧ B b) ∧ AR B I t1.avT (vs i) ∧ (vs i).cells.size = 3 ∧ (∀ (j : Nat) c, (vs i).cells[j]? = some c → I b (o + i * 3 + j) = some c)) := ⟨⟨hg, hBb⟩, hvi, hzi, hIi⟩
      clear hg hBb hvi hzi hIi hv hz hI u1 u2 u3 hkv hnl et hto hk0w
      go_wp2_with (first | (refine wpList_load rfl 26 _ (by rfl) (by rfl) (by exact hload) ?_) | (go_at_call 10; refine hcall.mono ?_; rintro e w2 ⟨rfl, hg2⟩; have h22 := h2' w2 hg2) | (refine wpList_store rfl 26 _ _ (by rfl) (by rfl) (by rfl) (by rfl) (by exact hst _ (by assumption)) ?_; generalize hW2 : World.setCells _ _ _ _ = W2))
      obtain ⟨⟨hg, hBb⟩, hvi, hzi, hIi⟩ := Q.out
      have hmi := A.out
      refine ⟨n - (i + 1), by omega, i + 1, _, _, _, _, _, _, _, _, _, _, _, _, _, _, _, _, _, _, ⟨by omega, rfl⟩, rfl, ?_, ?_⟩
      · rw [← hW2]
        exact elem_write (z := zeroI) (hg.called (by assumption)) hBb hvi hzi hIi rfl (kz_item t1)
      · rw [← hW2]
        exact (World.cell?_setCells_out b _ _ _ ⟨k0, 2, none⟩ (fun e _ => absurd e.symm (hBk b hBb))).trans h22
    · go_wp2
      go_end0
      exact ⟨rfl, hg⟩
theorem items_len {l : Bool} {t : List UInt8} {xs : List ItemD} (h : (ItemD.mk l t xs).ok) : xs.length ≤ 4611686018427387904 := by
  have h2 := wts_len xs
  unfold ItemD.ok at h
  rw [wt_eq] at h
  have e : (ItemD.mk l t xs).items = xs := rfl
  rw [e] at h
  omega
theorem item_sub {l : Bool} {t : List UInt8} {xs : List ItemD} (h : (ItemD.mk l t xs).ok) {x : ItemD} (hx : x ∈ xs) : x.ok := by
  have h2 := wts_mem hx
  unfold ItemD.ok at h ⊢
  rw [wt_eq] at h
  have e : (ItemD.mk l t xs).items = xs := rfl
  rw [e] at h
  omega
mutual
theorem item_goes : ∀ it : ItemD, it.ok → ItemGoes it
  | .mk l t xs => fun h => walk_Item l t xs (items_len h) (items_go xs fun x hx => item_sub h hx)
theorem items_go : ∀ xs : List ItemD, (∀ x ∈ xs, x.ok) → ∀ x ∈ xs, ItemGoes x
  | [], _ => fun x hx => by cases hx
  | y :: ys, h => fun x hx => by
    rcases List.mem_cons.1 hx with e | hx
    · rw [e]; exact item_goes y (h y (.head _))
    · exact items_go ys (fun z hz => h z (.tail _ hz)) x hx
end
theorem spoil_Item (it : ItemD) (h : it.ok) : Spoil Try.prog 10 it.avT :=
  spoil_of (avT_wide it) ⟨_, _, Try.func10, by kernel_rfl, rfl⟩ fun I B w v hx hs hB => item_goes it h I B w v v hx (kinV_refl v) hs hB
end Go.Proofs.Ytdenldjlijoeoaa.VA
end
section
/- Laws that write over what they were told: helps. -/
namespace Go.Proofs.Ytdenldjlijoeoaa.VA
set_option linter.unusedVariables false

noncomputable def cfs (n : Nat) (live : List Nat) (spc spl : FuncId → Bool) : Cfg := { P := Try.prog, ti := ti, n := n, live := live, ownp := fun _ => [], spc := spc, spl := spl }
theorem cfs_ok (n : Nat) (live : List Nat) (spc spl : FuncId → Bool) : CfgOk (cfs n live spc spl) := ⟨(cf_ok 0 [] (fun _ => [])).mixed, (cf_ok 0 [] (fun _ => [])).fit⟩
/-! What was put by. -/
theorem sty_agg {s : Stash} : ∀ {xs ys : List AV}, xs.length = ys.length → (∀ (j : Nat) x y, xs[j]? = some x → ys[j]? = some y → Sty s x y) → Sty s (.agg xs) (.agg ys) := fun hl h => .agg _ _ hl h
theorem sty_nil (s : Stash) : ∀ (j : Nat) x y, ([] : List AV)[j]? = some x → ([] : List AV)[j]? = some y → Sty s x y := fun j x y h => by cases h
theorem sty_cons {s : Stash} {x y : AV} {xs ys : List AV} (h : Sty s x y) (hr : ∀ (j : Nat) x y, xs[j]? = some x → ys[j]? = some y → Sty s x y) : ∀ (j : Nat) u v, (x :: xs)[j]? = some u → (y :: ys)[j]? = some v → Sty s u v := fun j u v hu hv => by
  cases j with
  | zero =>
    simp only [List.getElem?_cons_zero, Option.some.injEq] at hu hv
    subst hu hv; exact h
  | succ j => exact hr j u v (by simpa using hu) (by simpa using hv)
theorem by_nil (s : Stash) : ∀ (j : Nat) x y, ([] : List AV)[j]? = some x → ([] : List AV)[j]? = some y → By s x y := fun j x y h => by cases h
theorem by_cons {s : Stash} {x y : AV} {xs ys : List AV} (h : By s x y) (hr : ∀ (j : Nat) x y, xs[j]? = some x → ys[j]? = some y → By s x y) : ∀ (j : Nat) u v, (x :: xs)[j]? = some u → (y :: ys)[j]? = some v → By s u v := fun j u v hu hv => by
  cases j with
  | zero =>
    simp only [List.getElem?_cons_zero, Option.some.injEq] at hu hv
    subst hu hv; exact h
  | succ j => exact hr j u v (by simpa using hu) (by simpa using hv)
end Go.Proofs.Ytdenldjlijoeoaa.VA
end
section
/- ItemTakes: the law's function answers true. -/
namespace Go.Proofs.Ytdenldjlijoeoaa.VA
set_option maxRecDepth 10000
set_option linter.unusedSimpArgs false
set_option linter.unusedVariables false
set_option maxHeartbeats 8000000

theorem dullsT : ∀ xs : List ItemD, Dulls (xs.map ItemD.avT) (xs.map ItemD.av)
  | [] => .nil
  | x :: xs => .cons (avT_dull x) (dullsT xs)
theorem rowT_dull (xs : List ItemD) : Dull (.sl true 3 (xs.map ItemD.avT)) (.sl false 3 (xs.map ItemD.av)) := .sl true 3 _ _ (dulls_get (dullsT xs)).1 (dulls_get (dullsT xs)).2
theorem itemT_by (s : Stash) (it : ItemD) : By s (.agg [.bool it.list, .str it.text, .ext (stP s (.sl true 3 (it.items.map ItemD.avT)))]) (.agg [.bool it.list, .str it.text, .sl false 3 (it.items.map ItemD.av)]) :=
  .agg _ _ rfl (by_cons (.dull (.refl _) rfl) (by_cons (.dull (.refl _) rfl) (by_cons (.st (rowT_dull _)) (by_nil _))))
theorem itemT_sty (s : Stash) (it : ItemD) : Sty s (.agg [.bool it.list, .str it.text, .ext (stP s (.sl true 3 (it.items.map ItemD.avT)))]) (.agg [.bool it.list, .str it.text, .sl true 3 (it.items.map ItemD.avT)]) :=
  .agg _ _ rfl (sty_cons (.bool _) (sty_cons (.str _) (sty_cons (.st _) (sty_nil _))))
theorem spoil_I (it : ItemD) (h : it.ok) : Spoil Try.prog 10 (.agg [.bool it.list, .str it.text, .sl true 3 (it.items.map ItemD.avT)]) := by
  have h1 := spoil_Item it h
  rw [ItemD.avT_eq] at h1
  exact h1
def spc4 (f : FuncId) : Bool := Nat.beq f 6 || (Nat.beq f 10 || Nat.beq f 9)
def spl4 (f : FuncId) : Bool := Nat.beq f 10
theorem spc4_heavy : spc4 5 = false := rfl
theorem spc4_Take : spc4 6 = true := rfl
theorem spc4_ref : spc4 7 = false := rfl
theorem spc4_num : spc4 8 = false := rfl
theorem spc4_Eq : spc4 9 = true := rfl
theorem spc4_Item : spc4 10 = true := rfl
theorem spc4_Parse : spc4 11 = false := rfl
theorem spc4_wakes : spc4 12 = false := rfl
theorem c_ItemTakes (l : List Ask4) (hl : l.length ≤ 1048576) (hok : ∀ a ∈ l, a.ok) : Contract Try.prog 3 [asks4 l] (.bool true) := by
  refine contract_of (C := cfs 96 [0, 2, 3, 4, 5, 6, 7, 8, 9, 10, 18, 25, 60, 83, 94] spc4 spl4) (cfs_ok _ _ _ _) (fn := Try.f3) Try.func3 (by kernel_rfl) rfl (by kernel_rfl) (by simp [cfs]) (hspc := fun _ => rfl) (plain1 (asks4_plain l)) (by decide) (noCell (by kernel_rfl)) ?_
  simp only [go_sem, ↓reduceIte, Nat.reduceLT, Nat.reduceLeDiff, Nat.reduceAdd, Nat.reduceSub, Nat.reduceMul, Nat.reduceEqDiff, Nat.reduceBEq, Nat.reduceMod, Nat.reduceDiv, Int.reduceToNat, reduceCtorEq, Int.reduceLT, Int.reduceLE, Int.reduceGT, Int.reduceGE, Int.reduceAdd, Int.reduceSub, Int.reduceMul, Int.reduceNeg, Int.reduceEq, Int.reduceNe, Int.reduceBNe, Int.reduceBEq, Int.reduceDiv, cfs, spc4_heavy, spc4_Take, spc4_ref, spc4_num, spc4_Eq, spc4_Item, spc4_Parse, spc4_wakes, asks4]
  refine ex_iter [0, 3] (fun i : Nat => ⟨[(0, .sl false 4 (l.map Ask4.av)), (3, .int .i64 i)], [], []⟩) (fun i => i ≤ l.length) (fun i => l.length - i) 0 ?_ ?_ ?_
  · simp only [ASt.keep, consIf, keepL, keepV, AV.isBot, List.contains_cons, List.contains_nil, Nat.reduceBEq, Bool.or_false, Bool.false_or, Bool.or_true, Bool.true_or, beq_self_eq_true, Bool.false_eq_true, ↓reduceIte, if_false, if_true]
    rfl
  · exact Nat.zero_le _
  · intro n i hi next
    simp only [go_sem, ↓reduceIte, Nat.reduceLT, Nat.reduceLeDiff, Nat.reduceAdd, Nat.reduceSub, Nat.reduceMul, Nat.reduceEqDiff, Nat.reduceBEq, Nat.reduceMod, Nat.reduceDiv, Int.reduceToNat, reduceCtorEq, Int.reduceLT, Int.reduceLE, Int.reduceGT, Int.reduceGE, Int.reduceAdd, Int.reduceSub, Int.reduceMul, Int.reduceNeg, Int.reduceEq, Int.reduceNe, Int.reduceBNe, Int.reduceBEq, Int.reduceDiv, spc4_heavy, spc4_Take, spc4_ref, spc4_num, spc4_Eq, spc4_Item, spc4_Parse, spc4_wakes, List.length_map]
    refine ex_joinB 18 (decide (i < l.length) && decide (i < 6)) ?_ ?_
    · repeat' (first | (refine ex_split (fun h => ?_) (fun h => ?_)) | (with_reducible refine And.intro (by omega) ?_) |
        (simp only [go_sem, ↓reduceIte, Nat.reduceLT, Nat.reduceLeDiff, Nat.reduceAdd, Nat.reduceSub, Nat.reduceMul, Nat.reduceEqDiff, Nat.reduceBEq, Nat.reduceMod, Nat.reduceDiv, Int.reduceToNat, reduceCtorEq, Int.reduceLT, Int.reduceLE, Int.reduceGT, Int.reduceGE, Int.reduceAdd, Int.reduceSub, Int.reduceMul, Int.reduceNeg, Int.reduceEq, Int.reduceNe, Int.reduceBNe, Int.reduceBEq, Int.reduceDiv]))
      all_goals (try simp only [ASt.mk.injEq, List.cons.injEq, Prod.mk.injEq, AV.bool.injEq, true_and, and_true, eq_self])
      all_goals first | (simp_all; done) | (simp_all; omega) | (rw [Bool.eq_iff_iff]; simp only [List.length_map, Bool.or_eq_true, Bool.and_eq_true, Bool.not_eq_true', Bool.not_eq_false', decide_eq_true_eq, decide_eq_false_iff_not, bne_iff_ne, beq_iff_eq, ne_eq, true_iff, iff_true, false_iff, iff_false, Bool.false_eq_true, not_false_eq_true, not_true_eq_false] at *; omega)
    simp only [go_sem, ↓reduceIte, Nat.reduceLT, Nat.reduceLeDiff, Nat.reduceAdd, Nat.reduceSub, Nat.reduceMul, Nat.reduceEqDiff, Nat.reduceBEq, Nat.reduceMod, Nat.reduceDiv, Int.reduceToNat, reduceCtorEq, Int.reduceLT, Int.reduceLE, Int.reduceGT, Int.reduceGE, Int.reduceAdd, Int.reduceSub, Int.reduceMul, Int.reduceNeg, Int.reduceEq, Int.reduceNe, Int.reduceBNe, Int.reduceBEq, Int.reduceDiv, spc4_heavy, spc4_Take, spc4_ref, spc4_num, spc4_Eq, spc4_Item, spc4_Parse, spc4_wakes]
    refine ex_br (fun h => ?_) (fun h => ?_)
    · have hlt : i < l.length := by simp at h; omega
      have hi6 : i < 6 := by simp at h; omega
      obtain ⟨a, ea⟩ : ∃ a, l[i]? = some a := ⟨_, List.getElem?_eq_getElem hlt⟩
      have ho := hok a (List.mem_of_getElem? ea)
      have hw := ho.it
      have hs := ho.s
      have hit := ho.itok
      have hnum := wts_len a.it.items
      have hh := c_law4_heavy a.it a.s ho.itok (by unfold reachBytes; omega)
      unfold askAv ItemD.cells at hh
      cases hv : heavyI a.it a.s with
      | true =>
        rw [hv] at hh
        simp only [go_sem, ↓reduceIte, Nat.reduceLT, Nat.reduceLeDiff, Nat.reduceAdd, Nat.reduceSub, Nat.reduceMul, Nat.reduceEqDiff, Nat.reduceBEq, Nat.reduceMod, Nat.reduceDiv, Int.reduceToNat, reduceCtorEq, Int.reduceLT, Int.reduceLE, Int.reduceGT, Int.reduceGE, Int.reduceAdd, Int.reduceSub, Int.reduceMul, Int.reduceNeg, Int.reduceEq, Int.reduceNe, Int.reduceBNe, Int.reduceBEq, Int.reduceDiv, spc4_heavy, spc4_Take, spc4_ref, spc4_num, spc4_Eq, spc4_Item, spc4_Parse, spc4_wakes, List.length_map, List.getElem?_map, ea, Int.toNat_natCast, Ask4.av, askAv, ItemD.cells]
        repeat with_reducible refine And.intro (by first | omega | (simp only [List.length_cons, List.length_append, List.length_nil, List.length_map, List.length_take, List.length_drop, List.length_set]; omega)) ?_
        try simp only [go_sem, ↓reduceIte, Nat.reduceLT, Nat.reduceLeDiff, Nat.reduceAdd, Nat.reduceSub, Nat.reduceMul, Nat.reduceEqDiff, Nat.reduceBEq, Nat.reduceMod, Nat.reduceDiv, Int.reduceToNat, reduceCtorEq, Int.reduceLT, Int.reduceLE, Int.reduceGT, Int.reduceGE, Int.reduceAdd, Int.reduceSub, Int.reduceMul, Int.reduceNeg, Int.reduceEq, Int.reduceNe, Int.reduceBNe, Int.reduceBEq, Int.reduceDiv, spc4_heavy, spc4_Take, spc4_ref, spc4_num, spc4_Eq, spc4_Item, spc4_Parse, spc4_wakes, ItemD.cells]
        refine ex_call (by exact hh) ?_
        simp only [go_sem, ↓reduceIte, Nat.reduceLT, Nat.reduceLeDiff, Nat.reduceAdd, Nat.reduceSub, Nat.reduceMul, Nat.reduceEqDiff, Nat.reduceBEq, Nat.reduceMod, Nat.reduceDiv, Int.reduceToNat, reduceCtorEq, Int.reduceLT, Int.reduceLE, Int.reduceGT, Int.reduceGE, Int.reduceAdd, Int.reduceSub, Int.reduceMul, Int.reduceNeg, Int.reduceEq, Int.reduceNe, Int.reduceBNe, Int.reduceBEq, Int.reduceDiv, spc4_heavy, spc4_Take, spc4_ref, spc4_num, spc4_Eq, spc4_Item, spc4_Parse, spc4_wakes]
        refine finOne ?_ (fun _ e => by cases e)
        show resOf _ _ [.tmp 2] = _
        simp only [go_sem, ↓reduceIte, Nat.reduceLT, Nat.reduceLeDiff, Nat.reduceAdd, Nat.reduceSub, Nat.reduceMul, Nat.reduceEqDiff, Nat.reduceBEq, Nat.reduceMod, Nat.reduceDiv, Int.reduceToNat, reduceCtorEq, Int.reduceLT, Int.reduceLE, Int.reduceGT, Int.reduceGE, Int.reduceAdd, Int.reduceSub, Int.reduceMul, Int.reduceNeg, Int.reduceEq, Int.reduceNe, Int.reduceBNe, Int.reduceBEq, Int.reduceDiv, spc4_heavy, spc4_Take, spc4_ref, spc4_num, spc4_Eq, spc4_Item, spc4_Parse, spc4_wakes]
      | false =>
        rw [hv] at hh
        have hv2 := heavy_no hv
        have round : next = next := rfl
        simp only [go_sem, ↓reduceIte, Nat.reduceLT, Nat.reduceLeDiff, Nat.reduceAdd, Nat.reduceSub, Nat.reduceMul, Nat.reduceEqDiff, Nat.reduceBEq, Nat.reduceMod, Nat.reduceDiv, Int.reduceToNat, reduceCtorEq, Int.reduceLT, Int.reduceLE, Int.reduceGT, Int.reduceGE, Int.reduceAdd, Int.reduceSub, Int.reduceMul, Int.reduceNeg, Int.reduceEq, Int.reduceNe, Int.reduceBNe, Int.reduceBEq, Int.reduceDiv, spc4_heavy, spc4_Take, spc4_ref, spc4_num, spc4_Eq, spc4_Item, spc4_Parse, spc4_wakes, List.length_map, List.getElem?_map, ea, Int.toNat_natCast, Ask4.av, askAv, ItemD.cells]
        repeat with_reducible refine And.intro (by first | omega | (simp only [List.length_cons, List.length_append, List.length_nil, List.length_map, List.length_take, List.length_drop, List.length_set]; omega)) ?_
        try simp only [go_sem, ↓reduceIte, Nat.reduceLT, Nat.reduceLeDiff, Nat.reduceAdd, Nat.reduceSub, Nat.reduceMul, Nat.reduceEqDiff, Nat.reduceBEq, Nat.reduceMod, Nat.reduceDiv, Int.reduceToNat, reduceCtorEq, Int.reduceLT, Int.reduceLE, Int.reduceGT, Int.reduceGE, Int.reduceAdd, Int.reduceSub, Int.reduceMul, Int.reduceNeg, Int.reduceEq, Int.reduceNe, Int.reduceBNe, Int.reduceBEq, Int.reduceDiv, spc4_heavy, spc4_Take, spc4_ref, spc4_num, spc4_Eq, spc4_Item, spc4_Parse, spc4_wakes, ItemD.cells]
        refine ex_call (by exact hh) ?_
        have hT := c_item_TakeT a.s (by omega)
        have h1 := c_item_Parse a.s (by omega)
        have h2 := c_ref4_Take a.s (by omega)
        unfold parseAll at h1
        cases hp : parse 0 a.s with
        | error e =>
          have e0 : ((e : Int) == 0) = false := by rcases parse_err hp with rfl | rfl <;> rfl
          rw [hp] at hT h1 h2
          unfold resA at h1
          unfold resP at h2
          unfold resPT at hT
          try simp only [go_sem, ↓reduceIte, Nat.reduceLT, Nat.reduceLeDiff, Nat.reduceAdd, Nat.reduceSub, Nat.reduceMul, Nat.reduceEqDiff, Nat.reduceBEq, Nat.reduceMod, Nat.reduceDiv, Int.reduceToNat, reduceCtorEq, Int.reduceLT, Int.reduceLE, Int.reduceGT, Int.reduceGE, Int.reduceAdd, Int.reduceSub, Int.reduceMul, Int.reduceNeg, Int.reduceEq, Int.reduceNe, Int.reduceBNe, Int.reduceBEq, Int.reduceDiv, spc4_heavy, spc4_Take, spc4_ref, spc4_num, spc4_Eq, spc4_Item, spc4_Parse, spc4_wakes, List.length_map, List.getElem?_map, ea, Int.toNat_natCast, Ask4.av, askAv, ItemD.cells]
          repeat with_reducible refine And.intro (by first | omega | (simp only [List.length_cons, List.length_append, List.length_nil, List.length_map, List.length_take, List.length_drop, List.length_set]; omega)) ?_
          try simp only [go_sem, ↓reduceIte, Nat.reduceLT, Nat.reduceLeDiff, Nat.reduceAdd, Nat.reduceSub, Nat.reduceMul, Nat.reduceEqDiff, Nat.reduceBEq, Nat.reduceMod, Nat.reduceDiv, Int.reduceToNat, reduceCtorEq, Int.reduceLT, Int.reduceLE, Int.reduceGT, Int.reduceGE, Int.reduceAdd, Int.reduceSub, Int.reduceMul, Int.reduceNeg, Int.reduceEq, Int.reduceNe, Int.reduceBNe, Int.reduceBEq, Int.reduceDiv, spc4_heavy, spc4_Take, spc4_ref, spc4_num, spc4_Eq, spc4_Item, spc4_Parse, spc4_wakes, List.length_map, List.getElem?_map, ea, Int.toNat_natCast, Ask4.av, askAv, ItemD.cells]
          refine ex_fork (.cons (.refl _) .nil) (by exact hT) rfl rfl (fun z => ?_)
          try simp only [go_sem, ↓reduceIte, Nat.reduceLT, Nat.reduceLeDiff, Nat.reduceAdd, Nat.reduceSub, Nat.reduceMul, Nat.reduceEqDiff, Nat.reduceBEq, Nat.reduceMod, Nat.reduceDiv, Int.reduceToNat, reduceCtorEq, Int.reduceLT, Int.reduceLE, Int.reduceGT, Int.reduceGE, Int.reduceAdd, Int.reduceSub, Int.reduceMul, Int.reduceNeg, Int.reduceEq, Int.reduceNe, Int.reduceBNe, Int.reduceBEq, Int.reduceDiv, spc4_heavy, spc4_Take, spc4_ref, spc4_num, spc4_Eq, spc4_Item, spc4_Parse, spc4_wakes, List.length_map, List.getElem?_map, ea, Int.toNat_natCast, Ask4.av, askAv, ItemD.cells, ASt.stow, AV.stowT, AV.stowA, AV.stow]
          repeat with_reducible refine And.intro (by first | omega | (simp only [List.length_cons, List.length_append, List.length_nil, List.length_map, List.length_take, List.length_drop, List.length_set]; omega)) ?_
          try simp only [go_sem, ↓reduceIte, Nat.reduceLT, Nat.reduceLeDiff, Nat.reduceAdd, Nat.reduceSub, Nat.reduceMul, Nat.reduceEqDiff, Nat.reduceBEq, Nat.reduceMod, Nat.reduceDiv, Int.reduceToNat, reduceCtorEq, Int.reduceLT, Int.reduceLE, Int.reduceGT, Int.reduceGE, Int.reduceAdd, Int.reduceSub, Int.reduceMul, Int.reduceNeg, Int.reduceEq, Int.reduceNe, Int.reduceBNe, Int.reduceBEq, Int.reduceDiv, spc4_heavy, spc4_Take, spc4_ref, spc4_num, spc4_Eq, spc4_Item, spc4_Parse, spc4_wakes, List.length_map, List.getElem?_map, ea, Int.toNat_natCast, Ask4.av, askAv, ItemD.cells, ASt.stow, AV.stowT, AV.stowA, AV.stow]
          refine ex_call (by exact h2) ?_
          simp only [go_sem, ↓reduceIte, Nat.reduceLT, Nat.reduceLeDiff, Nat.reduceAdd, Nat.reduceSub, Nat.reduceMul, Nat.reduceEqDiff, Nat.reduceBEq, Nat.reduceMod, Nat.reduceDiv, Int.reduceToNat, reduceCtorEq, Int.reduceLT, Int.reduceLE, Int.reduceGT, Int.reduceGE, Int.reduceAdd, Int.reduceSub, Int.reduceMul, Int.reduceNeg, Int.reduceEq, Int.reduceNe, Int.reduceBNe, Int.reduceBEq, Int.reduceDiv, spc4_heavy, spc4_Take, spc4_ref, spc4_num, spc4_Eq, spc4_Item, spc4_Parse, spc4_wakes]
          refine ex_call (by exact c_law4_num _) ?_
          simp only [go_sem, ↓reduceIte, Nat.reduceLT, Nat.reduceLeDiff, Nat.reduceAdd, Nat.reduceSub, Nat.reduceMul, Nat.reduceEqDiff, Nat.reduceBEq, Nat.reduceMod, Nat.reduceDiv, Int.reduceToNat, reduceCtorEq, Int.reduceLT, Int.reduceLE, Int.reduceGT, Int.reduceGE, Int.reduceAdd, Int.reduceSub, Int.reduceMul, Int.reduceNeg, Int.reduceEq, Int.reduceNe, Int.reduceBNe, Int.reduceBEq, Int.reduceDiv, spc4_heavy, spc4_Take, spc4_ref, spc4_num, spc4_Eq, spc4_Item, spc4_Parse, spc4_wakes, bne_self_eq_false]
          refine ex_ask z (.head _) (.cons (itemT_by z (.mk false [] [])) (.cons (.dull (.refl _) rfl) .nil)) (by exact c_EqI (.mk false [] []) (.mk false [] []) nil_ok nil_ok) rfl ?_
          rw [decide_eq_true rfl]
          simp only [go_sem, ↓reduceIte, Nat.reduceLT, Nat.reduceLeDiff, Nat.reduceAdd, Nat.reduceSub, Nat.reduceMul, Nat.reduceEqDiff, Nat.reduceBEq, Nat.reduceMod, Nat.reduceDiv, Int.reduceToNat, reduceCtorEq, Int.reduceLT, Int.reduceLE, Int.reduceGT, Int.reduceGE, Int.reduceAdd, Int.reduceSub, Int.reduceMul, Int.reduceNeg, Int.reduceEq, Int.reduceNe, Int.reduceBNe, Int.reduceBEq, Int.reduceDiv, spc4_heavy, spc4_Take, spc4_ref, spc4_num, spc4_Eq, spc4_Item, spc4_Parse, spc4_wakes]
          refine ex_spoil z [] [] rfl rfl (itemT_sty z (.mk false [] [])) (spoil_I (.mk false [] []) nil_ok) ?_
          try simp only [go_sem, ↓reduceIte, Nat.reduceLT, Nat.reduceLeDiff, Nat.reduceAdd, Nat.reduceSub, Nat.reduceMul, Nat.reduceEqDiff, Nat.reduceBEq, Nat.reduceMod, Nat.reduceDiv, Int.reduceToNat, reduceCtorEq, Int.reduceLT, Int.reduceLE, Int.reduceGT, Int.reduceGE, Int.reduceAdd, Int.reduceSub, Int.reduceMul, Int.reduceNeg, Int.reduceEq, Int.reduceNe, Int.reduceBNe, Int.reduceBEq, Int.reduceDiv, spc4_heavy, spc4_Take, spc4_ref, spc4_num, spc4_Eq, spc4_Item, spc4_Parse, spc4_wakes, List.length_map, List.getElem?_map, ea, Int.toNat_natCast, Ask4.av, askAv, ItemD.cells, ASt.unstow]
          repeat with_reducible refine And.intro (by first | omega | (simp only [List.length_cons, List.length_append, List.length_nil, List.length_map, List.length_take, List.length_drop, List.length_set]; omega)) ?_
          try simp only [go_sem, ↓reduceIte, Nat.reduceLT, Nat.reduceLeDiff, Nat.reduceAdd, Nat.reduceSub, Nat.reduceMul, Nat.reduceEqDiff, Nat.reduceBEq, Nat.reduceMod, Nat.reduceDiv, Int.reduceToNat, reduceCtorEq, Int.reduceLT, Int.reduceLE, Int.reduceGT, Int.reduceGE, Int.reduceAdd, Int.reduceSub, Int.reduceMul, Int.reduceNeg, Int.reduceEq, Int.reduceNe, Int.reduceBNe, Int.reduceBEq, Int.reduceDiv, spc4_heavy, spc4_Take, spc4_ref, spc4_num, spc4_Eq, spc4_Item, spc4_Parse, spc4_wakes, List.length_map, List.getElem?_map, ea, Int.toNat_natCast, Ask4.av, askAv, ItemD.cells, ASt.unstow]
          refine ex_call (by exact h1) ?_
          simp only [go_sem, ↓reduceIte, Nat.reduceLT, Nat.reduceLeDiff, Nat.reduceAdd, Nat.reduceSub, Nat.reduceMul, Nat.reduceEqDiff, Nat.reduceBEq, Nat.reduceMod, Nat.reduceDiv, Int.reduceToNat, reduceCtorEq, Int.reduceLT, Int.reduceLE, Int.reduceGT, Int.reduceGE, Int.reduceAdd, Int.reduceSub, Int.reduceMul, Int.reduceNeg, Int.reduceEq, Int.reduceNe, Int.reduceBNe, Int.reduceBEq, Int.reduceDiv, spc4_heavy, spc4_Take, spc4_ref, spc4_num, spc4_Eq, spc4_Item, spc4_Parse, spc4_wakes, e0]
          refine ex_call (by exact c_law4_num _) ?_
          simp only [go_sem, ↓reduceIte, Nat.reduceLT, Nat.reduceLeDiff, Nat.reduceAdd, Nat.reduceSub, Nat.reduceMul, Nat.reduceEqDiff, Nat.reduceBEq, Nat.reduceMod, Nat.reduceDiv, Int.reduceToNat, reduceCtorEq, Int.reduceLT, Int.reduceLE, Int.reduceGT, Int.reduceGE, Int.reduceAdd, Int.reduceSub, Int.reduceMul, Int.reduceNeg, Int.reduceEq, Int.reduceNe, Int.reduceBNe, Int.reduceBEq, Int.reduceDiv, spc4_heavy, spc4_Take, spc4_ref, spc4_num, spc4_Eq, spc4_Item, spc4_Parse, spc4_wakes, bne_self_eq_false]
          refine ex_plain (.cons (.refl _) (.cons (.refl _) .nil)) (by exact c_EqI (.mk false [] []) (.mk false [] []) nil_ok nil_ok) ?_
          rw [decide_eq_true rfl]
          simp only [go_sem, ↓reduceIte, Nat.reduceLT, Nat.reduceLeDiff, Nat.reduceAdd, Nat.reduceSub, Nat.reduceMul, Nat.reduceEqDiff, Nat.reduceBEq, Nat.reduceMod, Nat.reduceDiv, Int.reduceToNat, reduceCtorEq, Int.reduceLT, Int.reduceLE, Int.reduceGT, Int.reduceGE, Int.reduceAdd, Int.reduceSub, Int.reduceMul, Int.reduceNeg, Int.reduceEq, Int.reduceNe, Int.reduceBNe, Int.reduceBEq, Int.reduceDiv, spc4_heavy, spc4_Take, spc4_ref, spc4_num, spc4_Eq, spc4_Item, spc4_Parse, spc4_wakes]
          refine next (i + 1) _ (by omega) (by omega) ?_
          rw [← wi64_nat i (by omega)]
          simp only [ASt.keep, consIf, keepL, keepV, AV.isBot, List.contains_cons, List.contains_nil, Nat.reduceBEq, Bool.or_false, Bool.false_or, Bool.or_true, Bool.true_or, beq_self_eq_true, Bool.false_eq_true, ↓reduceIte, if_false, if_true]
        | ok r =>
          obtain ⟨it, k⟩ := r
          have hio := parse_itok (by omega) hp
          have hle := (parse_ok hp).le
          rw [hp] at hT h1 h2
          unfold resP at h2
          unfold resPT at hT
          simp only at h1
          rcases Decidable.em (k < a.s.length) with hk | hk
          · rw [if_pos hk] at h1
            unfold resA at h1
            have e1 : ((k : Int) != (a.s.length : Int)) = true := by simp; omega
            try simp only [go_sem, ↓reduceIte, Nat.reduceLT, Nat.reduceLeDiff, Nat.reduceAdd, Nat.reduceSub, Nat.reduceMul, Nat.reduceEqDiff, Nat.reduceBEq, Nat.reduceMod, Nat.reduceDiv, Int.reduceToNat, reduceCtorEq, Int.reduceLT, Int.reduceLE, Int.reduceGT, Int.reduceGE, Int.reduceAdd, Int.reduceSub, Int.reduceMul, Int.reduceNeg, Int.reduceEq, Int.reduceNe, Int.reduceBNe, Int.reduceBEq, Int.reduceDiv, spc4_heavy, spc4_Take, spc4_ref, spc4_num, spc4_Eq, spc4_Item, spc4_Parse, spc4_wakes, List.length_map, List.getElem?_map, ea, Int.toNat_natCast, Ask4.av, askAv, ItemD.cells]
            repeat with_reducible refine And.intro (by first | omega | (simp only [List.length_cons, List.length_append, List.length_nil, List.length_map, List.length_take, List.length_drop, List.length_set]; omega)) ?_
            try simp only [go_sem, ↓reduceIte, Nat.reduceLT, Nat.reduceLeDiff, Nat.reduceAdd, Nat.reduceSub, Nat.reduceMul, Nat.reduceEqDiff, Nat.reduceBEq, Nat.reduceMod, Nat.reduceDiv, Int.reduceToNat, reduceCtorEq, Int.reduceLT, Int.reduceLE, Int.reduceGT, Int.reduceGE, Int.reduceAdd, Int.reduceSub, Int.reduceMul, Int.reduceNeg, Int.reduceEq, Int.reduceNe, Int.reduceBNe, Int.reduceBEq, Int.reduceDiv, spc4_heavy, spc4_Take, spc4_ref, spc4_num, spc4_Eq, spc4_Item, spc4_Parse, spc4_wakes, List.length_map, List.getElem?_map, ea, Int.toNat_natCast, Ask4.av, askAv, ItemD.cells]
            refine ex_fork (.cons (.refl _) .nil) (by exact hT) rfl rfl (fun z => ?_)
            try simp only [go_sem, ↓reduceIte, Nat.reduceLT, Nat.reduceLeDiff, Nat.reduceAdd, Nat.reduceSub, Nat.reduceMul, Nat.reduceEqDiff, Nat.reduceBEq, Nat.reduceMod, Nat.reduceDiv, Int.reduceToNat, reduceCtorEq, Int.reduceLT, Int.reduceLE, Int.reduceGT, Int.reduceGE, Int.reduceAdd, Int.reduceSub, Int.reduceMul, Int.reduceNeg, Int.reduceEq, Int.reduceNe, Int.reduceBNe, Int.reduceBEq, Int.reduceDiv, spc4_heavy, spc4_Take, spc4_ref, spc4_num, spc4_Eq, spc4_Item, spc4_Parse, spc4_wakes, List.length_map, List.getElem?_map, ea, Int.toNat_natCast, Ask4.av, askAv, ItemD.cells, ASt.stow, AV.stowT, AV.stowA, AV.stow]
            repeat with_reducible refine And.intro (by first | omega | (simp only [List.length_cons, List.length_append, List.length_nil, List.length_map, List.length_take, List.length_drop, List.length_set]; omega)) ?_
            try simp only [go_sem, ↓reduceIte, Nat.reduceLT, Nat.reduceLeDiff, Nat.reduceAdd, Nat.reduceSub, Nat.reduceMul, Nat.reduceEqDiff, Nat.reduceBEq, Nat.reduceMod, Nat.reduceDiv, Int.reduceToNat, reduceCtorEq, Int.reduceLT, Int.reduceLE, Int.reduceGT, Int.reduceGE, Int.reduceAdd, Int.reduceSub, Int.reduceMul, Int.reduceNeg, Int.reduceEq, Int.reduceNe, Int.reduceBNe, Int.reduceBEq, Int.reduceDiv, spc4_heavy, spc4_Take, spc4_ref, spc4_num, spc4_Eq, spc4_Item, spc4_Parse, spc4_wakes, List.length_map, List.getElem?_map, ea, Int.toNat_natCast, Ask4.av, askAv, ItemD.cells, ASt.stow, AV.stowT, AV.stowA, AV.stow]
            refine ex_call (by exact h2) ?_
            simp only [go_sem, ↓reduceIte, Nat.reduceLT, Nat.reduceLeDiff, Nat.reduceAdd, Nat.reduceSub, Nat.reduceMul, Nat.reduceEqDiff, Nat.reduceBEq, Nat.reduceMod, Nat.reduceDiv, Int.reduceToNat, reduceCtorEq, Int.reduceLT, Int.reduceLE, Int.reduceGT, Int.reduceGE, Int.reduceAdd, Int.reduceSub, Int.reduceMul, Int.reduceNeg, Int.reduceEq, Int.reduceNe, Int.reduceBNe, Int.reduceBEq, Int.reduceDiv, spc4_heavy, spc4_Take, spc4_ref, spc4_num, spc4_Eq, spc4_Item, spc4_Parse, spc4_wakes]
            refine ex_call (by exact c_law4_num _) ?_
            simp only [go_sem, ↓reduceIte, Nat.reduceLT, Nat.reduceLeDiff, Nat.reduceAdd, Nat.reduceSub, Nat.reduceMul, Nat.reduceEqDiff, Nat.reduceBEq, Nat.reduceMod, Nat.reduceDiv, Int.reduceToNat, reduceCtorEq, Int.reduceLT, Int.reduceLE, Int.reduceGT, Int.reduceGE, Int.reduceAdd, Int.reduceSub, Int.reduceMul, Int.reduceNeg, Int.reduceEq, Int.reduceNe, Int.reduceBNe, Int.reduceBEq, Int.reduceDiv, spc4_heavy, spc4_Take, spc4_ref, spc4_num, spc4_Eq, spc4_Item, spc4_Parse, spc4_wakes, bne_self_eq_false]
            refine ex_ask z (.head _) (.cons (itemT_by z it) (.cons (.dull (.refl _) rfl) .nil)) (by exact c_EqI it it hio hio) rfl ?_
            rw [decide_eq_true rfl]
            simp only [go_sem, ↓reduceIte, Nat.reduceLT, Nat.reduceLeDiff, Nat.reduceAdd, Nat.reduceSub, Nat.reduceMul, Nat.reduceEqDiff, Nat.reduceBEq, Nat.reduceMod, Nat.reduceDiv, Int.reduceToNat, reduceCtorEq, Int.reduceLT, Int.reduceLE, Int.reduceGT, Int.reduceGE, Int.reduceAdd, Int.reduceSub, Int.reduceMul, Int.reduceNeg, Int.reduceEq, Int.reduceNe, Int.reduceBNe, Int.reduceBEq, Int.reduceDiv, spc4_heavy, spc4_Take, spc4_ref, spc4_num, spc4_Eq, spc4_Item, spc4_Parse, spc4_wakes]
            refine ex_spoil z [] [] rfl rfl (itemT_sty z it) (spoil_I it hio) ?_
            try simp only [go_sem, ↓reduceIte, Nat.reduceLT, Nat.reduceLeDiff, Nat.reduceAdd, Nat.reduceSub, Nat.reduceMul, Nat.reduceEqDiff, Nat.reduceBEq, Nat.reduceMod, Nat.reduceDiv, Int.reduceToNat, reduceCtorEq, Int.reduceLT, Int.reduceLE, Int.reduceGT, Int.reduceGE, Int.reduceAdd, Int.reduceSub, Int.reduceMul, Int.reduceNeg, Int.reduceEq, Int.reduceNe, Int.reduceBNe, Int.reduceBEq, Int.reduceDiv, spc4_heavy, spc4_Take, spc4_ref, spc4_num, spc4_Eq, spc4_Item, spc4_Parse, spc4_wakes, List.length_map, List.getElem?_map, ea, Int.toNat_natCast, Ask4.av, askAv, ItemD.cells, ASt.unstow]
            repeat with_reducible refine And.intro (by first | omega | (simp only [List.length_cons, List.length_append, List.length_nil, List.length_map, List.length_take, List.length_drop, List.length_set]; omega)) ?_
            try simp only [go_sem, ↓reduceIte, Nat.reduceLT, Nat.reduceLeDiff, Nat.reduceAdd, Nat.reduceSub, Nat.reduceMul, Nat.reduceEqDiff, Nat.reduceBEq, Nat.reduceMod, Nat.reduceDiv, Int.reduceToNat, reduceCtorEq, Int.reduceLT, Int.reduceLE, Int.reduceGT, Int.reduceGE, Int.reduceAdd, Int.reduceSub, Int.reduceMul, Int.reduceNeg, Int.reduceEq, Int.reduceNe, Int.reduceBNe, Int.reduceBEq, Int.reduceDiv, spc4_heavy, spc4_Take, spc4_ref, spc4_num, spc4_Eq, spc4_Item, spc4_Parse, spc4_wakes, List.length_map, List.getElem?_map, ea, Int.toNat_natCast, Ask4.av, askAv, ItemD.cells, ASt.unstow]
            refine ex_call (by exact h1) ?_
            try simp only [go_sem, ↓reduceIte, Nat.reduceLT, Nat.reduceLeDiff, Nat.reduceAdd, Nat.reduceSub, Nat.reduceMul, Nat.reduceEqDiff, Nat.reduceBEq, Nat.reduceMod, Nat.reduceDiv, Int.reduceToNat, reduceCtorEq, Int.reduceLT, Int.reduceLE, Int.reduceGT, Int.reduceGE, Int.reduceAdd, Int.reduceSub, Int.reduceMul, Int.reduceNeg, Int.reduceEq, Int.reduceNe, Int.reduceBNe, Int.reduceBEq, Int.reduceDiv, spc4_heavy, spc4_Take, spc4_ref, spc4_num, spc4_Eq, spc4_Item, spc4_Parse, spc4_wakes, List.length_map, List.getElem?_map, ea, Int.toNat_natCast, Ask4.av, askAv, ItemD.cells]
            repeat with_reducible refine And.intro (by first | omega | (simp only [List.length_cons, List.length_append, List.length_nil, List.length_map, List.length_take, List.length_drop, List.length_set]; omega)) ?_
            try simp only [go_sem, ↓reduceIte, Nat.reduceLT, Nat.reduceLeDiff, Nat.reduceAdd, Nat.reduceSub, Nat.reduceMul, Nat.reduceEqDiff, Nat.reduceBEq, Nat.reduceMod, Nat.reduceDiv, Int.reduceToNat, reduceCtorEq, Int.reduceLT, Int.reduceLE, Int.reduceGT, Int.reduceGE, Int.reduceAdd, Int.reduceSub, Int.reduceMul, Int.reduceNeg, Int.reduceEq, Int.reduceNe, Int.reduceBNe, Int.reduceBEq, Int.reduceDiv, spc4_heavy, spc4_Take, spc4_ref, spc4_num, spc4_Eq, spc4_Item, spc4_Parse, spc4_wakes, List.length_map, List.getElem?_map, ea, Int.toNat_natCast, Ask4.av, askAv, ItemD.cells]
            simp only [go_sem, ↓reduceIte, Nat.reduceLT, Nat.reduceLeDiff, Nat.reduceAdd, Nat.reduceSub, Nat.reduceMul, Nat.reduceEqDiff, Nat.reduceBEq, Nat.reduceMod, Nat.reduceDiv, Int.reduceToNat, reduceCtorEq, Int.reduceLT, Int.reduceLE, Int.reduceGT, Int.reduceGE, Int.reduceAdd, Int.reduceSub, Int.reduceMul, Int.reduceNeg, Int.reduceEq, Int.reduceNe, Int.reduceBNe, Int.reduceBEq, Int.reduceDiv, spc4_heavy, spc4_Take, spc4_ref, spc4_num, spc4_Eq, spc4_Item, spc4_Parse, spc4_wakes, e1]
            refine ex_call (by exact c_law4_num _) ?_
            simp only [go_sem, ↓reduceIte, Nat.reduceLT, Nat.reduceLeDiff, Nat.reduceAdd, Nat.reduceSub, Nat.reduceMul, Nat.reduceEqDiff, Nat.reduceBEq, Nat.reduceMod, Nat.reduceDiv, Int.reduceToNat, reduceCtorEq, Int.reduceLT, Int.reduceLE, Int.reduceGT, Int.reduceGE, Int.reduceAdd, Int.reduceSub, Int.reduceMul, Int.reduceNeg, Int.reduceEq, Int.reduceNe, Int.reduceBNe, Int.reduceBEq, Int.reduceDiv, spc4_heavy, spc4_Take, spc4_ref, spc4_num, spc4_Eq, spc4_Item, spc4_Parse, spc4_wakes, Int.cast_ofNat_Int, bne_self_eq_false]
            refine ex_plain (.cons (.refl _) (.cons (dull_none _ _) .nil)) (by exact c_EqI (.mk false [] []) (.mk false [] []) nil_ok nil_ok) ?_
            rw [decide_eq_true rfl]
            simp only [go_sem, ↓reduceIte, Nat.reduceLT, Nat.reduceLeDiff, Nat.reduceAdd, Nat.reduceSub, Nat.reduceMul, Nat.reduceEqDiff, Nat.reduceBEq, Nat.reduceMod, Nat.reduceDiv, Int.reduceToNat, reduceCtorEq, Int.reduceLT, Int.reduceLE, Int.reduceGT, Int.reduceGE, Int.reduceAdd, Int.reduceSub, Int.reduceMul, Int.reduceNeg, Int.reduceEq, Int.reduceNe, Int.reduceBNe, Int.reduceBEq, Int.reduceDiv, spc4_heavy, spc4_Take, spc4_ref, spc4_num, spc4_Eq, spc4_Item, spc4_Parse, spc4_wakes]
            refine next (i + 1) _ (by omega) (by omega) ?_
            rw [← wi64_nat i (by omega)]
            simp only [ASt.keep, consIf, keepL, keepV, AV.isBot, List.contains_cons, List.contains_nil, Nat.reduceBEq, Bool.or_false, Bool.false_or, Bool.or_true, Bool.true_or, beq_self_eq_true, Bool.false_eq_true, ↓reduceIte, if_false, if_true]
          · rw [if_neg hk] at h1
            unfold resA at h1
            have e1 : ((k : Int) != (a.s.length : Int)) = false := by simp; omega
            try simp only [go_sem, ↓reduceIte, Nat.reduceLT, Nat.reduceLeDiff, Nat.reduceAdd, Nat.reduceSub, Nat.reduceMul, Nat.reduceEqDiff, Nat.reduceBEq, Nat.reduceMod, Nat.reduceDiv, Int.reduceToNat, reduceCtorEq, Int.reduceLT, Int.reduceLE, Int.reduceGT, Int.reduceGE, Int.reduceAdd, Int.reduceSub, Int.reduceMul, Int.reduceNeg, Int.reduceEq, Int.reduceNe, Int.reduceBNe, Int.reduceBEq, Int.reduceDiv, spc4_heavy, spc4_Take, spc4_ref, spc4_num, spc4_Eq, spc4_Item, spc4_Parse, spc4_wakes, List.length_map, List.getElem?_map, ea, Int.toNat_natCast, Ask4.av, askAv, ItemD.cells]
            repeat with_reducible refine And.intro (by first | omega | (simp only [List.length_cons, List.length_append, List.length_nil, List.length_map, List.length_take, List.length_drop, List.length_set]; omega)) ?_
            try simp only [go_sem, ↓reduceIte, Nat.reduceLT, Nat.reduceLeDiff, Nat.reduceAdd, Nat.reduceSub, Nat.reduceMul, Nat.reduceEqDiff, Nat.reduceBEq, Nat.reduceMod, Nat.reduceDiv, Int.reduceToNat, reduceCtorEq, Int.reduceLT, Int.reduceLE, Int.reduceGT, Int.reduceGE, Int.reduceAdd, Int.reduceSub, Int.reduceMul, Int.reduceNeg, Int.reduceEq, Int.reduceNe, Int.reduceBNe, Int.reduceBEq, Int.reduceDiv, spc4_heavy, spc4_Take, spc4_ref, spc4_num, spc4_Eq, spc4_Item, spc4_Parse, spc4_wakes, List.length_map, List.getElem?_map, ea, Int.toNat_natCast, Ask4.av, askAv, ItemD.cells]
            refine ex_fork (.cons (.refl _) .nil) (by exact hT) rfl rfl (fun z => ?_)
            try simp only [go_sem, ↓reduceIte, Nat.reduceLT, Nat.reduceLeDiff, Nat.reduceAdd, Nat.reduceSub, Nat.reduceMul, Nat.reduceEqDiff, Nat.reduceBEq, Nat.reduceMod, Nat.reduceDiv, Int.reduceToNat, reduceCtorEq, Int.reduceLT, Int.reduceLE, Int.reduceGT, Int.reduceGE, Int.reduceAdd, Int.reduceSub, Int.reduceMul, Int.reduceNeg, Int.reduceEq, Int.reduceNe, Int.reduceBNe, Int.reduceBEq, Int.reduceDiv, spc4_heavy, spc4_Take, spc4_ref, spc4_num, spc4_Eq, spc4_Item, spc4_Parse, spc4_wakes, List.length_map, List.getElem?_map, ea, Int.toNat_natCast, Ask4.av, askAv, ItemD.cells, ASt.stow, AV.stowT, AV.stowA, AV.stow]
            repeat with_reducible refine And.intro (by first | omega | (simp only [List.length_cons, List.length_append, List.length_nil, List.length_map, List.length_take, List.length_drop, List.length_set]; omega)) ?_
            try simp only [go_sem, ↓reduceIte, Nat.reduceLT, Nat.reduceLeDiff, Nat.reduceAdd, Nat.reduceSub, Nat.reduceMul, Nat.reduceEqDiff, Nat.reduceBEq, Nat.reduceMod, Nat.reduceDiv, Int.reduceToNat, reduceCtorEq, Int.reduceLT, Int.reduceLE, Int.reduceGT, Int.reduceGE, Int.reduceAdd, Int.reduceSub, Int.reduceMul, Int.reduceNeg, Int.reduceEq, Int.reduceNe, Int.reduceBNe, Int.reduceBEq, Int.reduceDiv, spc4_heavy, spc4_Take, spc4_ref, spc4_num, spc4_Eq, spc4_Item, spc4_Parse, spc4_wakes, List.length_map, List.getElem?_map, ea, Int.toNat_natCast, Ask4.av, askAv, ItemD.cells, ASt.stow, AV.stowT, AV.stowA, AV.stow]
            refine ex_call (by exact h2) ?_
            simp only [go_sem, ↓reduceIte, Nat.reduceLT, Nat.reduceLeDiff, Nat.reduceAdd, Nat.reduceSub, Nat.reduceMul, Nat.reduceEqDiff, Nat.reduceBEq, Nat.reduceMod, Nat.reduceDiv, Int.reduceToNat, reduceCtorEq, Int.reduceLT, Int.reduceLE, Int.reduceGT, Int.reduceGE, Int.reduceAdd, Int.reduceSub, Int.reduceMul, Int.reduceNeg, Int.reduceEq, Int.reduceNe, Int.reduceBNe, Int.reduceBEq, Int.reduceDiv, spc4_heavy, spc4_Take, spc4_ref, spc4_num, spc4_Eq, spc4_Item, spc4_Parse, spc4_wakes]
            refine ex_call (by exact c_law4_num _) ?_
            simp only [go_sem, ↓reduceIte, Nat.reduceLT, Nat.reduceLeDiff, Nat.reduceAdd, Nat.reduceSub, Nat.reduceMul, Nat.reduceEqDiff, Nat.reduceBEq, Nat.reduceMod, Nat.reduceDiv, Int.reduceToNat, reduceCtorEq, Int.reduceLT, Int.reduceLE, Int.reduceGT, Int.reduceGE, Int.reduceAdd, Int.reduceSub, Int.reduceMul, Int.reduceNeg, Int.reduceEq, Int.reduceNe, Int.reduceBNe, Int.reduceBEq, Int.reduceDiv, spc4_heavy, spc4_Take, spc4_ref, spc4_num, spc4_Eq, spc4_Item, spc4_Parse, spc4_wakes, bne_self_eq_false]
            refine ex_ask z (.head _) (.cons (itemT_by z it) (.cons (.dull (.refl _) rfl) .nil)) (by exact c_EqI it it hio hio) rfl ?_
            rw [decide_eq_true rfl]
            simp only [go_sem, ↓reduceIte, Nat.reduceLT, Nat.reduceLeDiff, Nat.reduceAdd, Nat.reduceSub, Nat.reduceMul, Nat.reduceEqDiff, Nat.reduceBEq, Nat.reduceMod, Nat.reduceDiv, Int.reduceToNat, reduceCtorEq, Int.reduceLT, Int.reduceLE, Int.reduceGT, Int.reduceGE, Int.reduceAdd, Int.reduceSub, Int.reduceMul, Int.reduceNeg, Int.reduceEq, Int.reduceNe, Int.reduceBNe, Int.reduceBEq, Int.reduceDiv, spc4_heavy, spc4_Take, spc4_ref, spc4_num, spc4_Eq, spc4_Item, spc4_Parse, spc4_wakes]
            refine ex_spoil z [] [] rfl rfl (itemT_sty z it) (spoil_I it hio) ?_
            try simp only [go_sem, ↓reduceIte, Nat.reduceLT, Nat.reduceLeDiff, Nat.reduceAdd, Nat.reduceSub, Nat.reduceMul, Nat.reduceEqDiff, Nat.reduceBEq, Nat.reduceMod, Nat.reduceDiv, Int.reduceToNat, reduceCtorEq, Int.reduceLT, Int.reduceLE, Int.reduceGT, Int.reduceGE, Int.reduceAdd, Int.reduceSub, Int.reduceMul, Int.reduceNeg, Int.reduceEq, Int.reduceNe, Int.reduceBNe, Int.reduceBEq, Int.reduceDiv, spc4_heavy, spc4_Take, spc4_ref, spc4_num, spc4_Eq, spc4_Item, spc4_Parse, spc4_wakes, List.length_map, List.getElem?_map, ea, Int.toNat_natCast, Ask4.av, askAv, ItemD.cells, ASt.unstow]
            repeat with_reducible refine And.intro (by first | omega | (simp only [List.length_cons, List.length_append, List.length_nil, List.length_map, List.length_take, List.length_drop, List.length_set]; omega)) ?_
            try simp only [go_sem, ↓reduceIte, Nat.reduceLT, Nat.reduceLeDiff, Nat.reduceAdd, Nat.reduceSub, Nat.reduceMul, Nat.reduceEqDiff, Nat.reduceBEq, Nat.reduceMod, Nat.reduceDiv, Int.reduceToNat, reduceCtorEq, Int.reduceLT, Int.reduceLE, Int.reduceGT, Int.reduceGE, Int.reduceAdd, Int.reduceSub, Int.reduceMul, Int.reduceNeg, Int.reduceEq, Int.reduceNe, Int.reduceBNe, Int.reduceBEq, Int.reduceDiv, spc4_heavy, spc4_Take, spc4_ref, spc4_num, spc4_Eq, spc4_Item, spc4_Parse, spc4_wakes, List.length_map, List.getElem?_map, ea, Int.toNat_natCast, Ask4.av, askAv, ItemD.cells, ASt.unstow]
            refine ex_call (by exact h1) ?_
            try simp only [go_sem, ↓reduceIte, Nat.reduceLT, Nat.reduceLeDiff, Nat.reduceAdd, Nat.reduceSub, Nat.reduceMul, Nat.reduceEqDiff, Nat.reduceBEq, Nat.reduceMod, Nat.reduceDiv, Int.reduceToNat, reduceCtorEq, Int.reduceLT, Int.reduceLE, Int.reduceGT, Int.reduceGE, Int.reduceAdd, Int.reduceSub, Int.reduceMul, Int.reduceNeg, Int.reduceEq, Int.reduceNe, Int.reduceBNe, Int.reduceBEq, Int.reduceDiv, spc4_heavy, spc4_Take, spc4_ref, spc4_num, spc4_Eq, spc4_Item, spc4_Parse, spc4_wakes, List.length_map, List.getElem?_map, ea, Int.toNat_natCast, Ask4.av, askAv, ItemD.cells]
            repeat with_reducible refine And.intro (by first | omega | (simp only [List.length_cons, List.length_append, List.length_nil, List.length_map, List.length_take, List.length_drop, List.length_set]; omega)) ?_
            try simp only [go_sem, ↓reduceIte, Nat.reduceLT, Nat.reduceLeDiff, Nat.reduceAdd, Nat.reduceSub, Nat.reduceMul, Nat.reduceEqDiff, Nat.reduceBEq, Nat.reduceMod, Nat.reduceDiv, Int.reduceToNat, reduceCtorEq, Int.reduceLT, Int.reduceLE, Int.reduceGT, Int.reduceGE, Int.reduceAdd, Int.reduceSub, Int.reduceMul, Int.reduceNeg, Int.reduceEq, Int.reduceNe, Int.reduceBNe, Int.reduceBEq, Int.reduceDiv, spc4_heavy, spc4_Take, spc4_ref, spc4_num, spc4_Eq, spc4_Item, spc4_Parse, spc4_wakes, List.length_map, List.getElem?_map, ea, Int.toNat_natCast, Ask4.av, askAv, ItemD.cells]
            simp only [go_sem, ↓reduceIte, Nat.reduceLT, Nat.reduceLeDiff, Nat.reduceAdd, Nat.reduceSub, Nat.reduceMul, Nat.reduceEqDiff, Nat.reduceBEq, Nat.reduceMod, Nat.reduceDiv, Int.reduceToNat, reduceCtorEq, Int.reduceLT, Int.reduceLE, Int.reduceGT, Int.reduceGE, Int.reduceAdd, Int.reduceSub, Int.reduceMul, Int.reduceNeg, Int.reduceEq, Int.reduceNe, Int.reduceBNe, Int.reduceBEq, Int.reduceDiv, spc4_heavy, spc4_Take, spc4_ref, spc4_num, spc4_Eq, spc4_Item, spc4_Parse, spc4_wakes, e1]
            refine ex_call (by exact c_law4_num _) ?_
            simp only [go_sem, ↓reduceIte, Nat.reduceLT, Nat.reduceLeDiff, Nat.reduceAdd, Nat.reduceSub, Nat.reduceMul, Nat.reduceEqDiff, Nat.reduceBEq, Nat.reduceMod, Nat.reduceDiv, Int.reduceToNat, reduceCtorEq, Int.reduceLT, Int.reduceLE, Int.reduceGT, Int.reduceGE, Int.reduceAdd, Int.reduceSub, Int.reduceMul, Int.reduceNeg, Int.reduceEq, Int.reduceNe, Int.reduceBNe, Int.reduceBEq, Int.reduceDiv, spc4_heavy, spc4_Take, spc4_ref, spc4_num, spc4_Eq, spc4_Item, spc4_Parse, spc4_wakes, bne_self_eq_false]
            refine ex_plain (.cons (.refl _) (.cons (.refl _) .nil)) (by exact c_EqI it it hio hio) ?_
            rw [decide_eq_true rfl]
            simp only [go_sem, ↓reduceIte, Nat.reduceLT, Nat.reduceLeDiff, Nat.reduceAdd, Nat.reduceSub, Nat.reduceMul, Nat.reduceEqDiff, Nat.reduceBEq, Nat.reduceMod, Nat.reduceDiv, Int.reduceToNat, reduceCtorEq, Int.reduceLT, Int.reduceLE, Int.reduceGT, Int.reduceGE, Int.reduceAdd, Int.reduceSub, Int.reduceMul, Int.reduceNeg, Int.reduceEq, Int.reduceNe, Int.reduceBNe, Int.reduceBEq, Int.reduceDiv, spc4_heavy, spc4_Take, spc4_ref, spc4_num, spc4_Eq, spc4_Item, spc4_Parse, spc4_wakes]
            refine next (i + 1) _ (by omega) (by omega) ?_
            rw [← wi64_nat i (by omega)]
            simp only [ASt.keep, consIf, keepL, keepV, AV.isBot, List.contains_cons, List.contains_nil, Nat.reduceBEq, Bool.or_false, Bool.false_or, Bool.or_true, Bool.true_or, beq_self_eq_true, Bool.false_eq_true, ↓reduceIte, if_false, if_true]
    · simp only [go_sem, ↓reduceIte, Nat.reduceLT, Nat.reduceLeDiff, Nat.reduceAdd, Nat.reduceSub, Nat.reduceMul, Nat.reduceEqDiff, Nat.reduceBEq, Nat.reduceMod, Nat.reduceDiv, Int.reduceToNat, reduceCtorEq, Int.reduceLT, Int.reduceLE, Int.reduceGT, Int.reduceGE, Int.reduceAdd, Int.reduceSub, Int.reduceMul, Int.reduceNeg, Int.reduceEq, Int.reduceNe, Int.reduceBNe, Int.reduceBEq, Int.reduceDiv, spc4_heavy, spc4_Take, spc4_ref, spc4_num, spc4_Eq, spc4_Item, spc4_Parse, spc4_wakes]
      refine ex_call (by exact c_law4_wakes) ?_
      simp only [go_sem, ↓reduceIte, Nat.reduceLT, Nat.reduceLeDiff, Nat.reduceAdd, Nat.reduceSub, Nat.reduceMul, Nat.reduceEqDiff, Nat.reduceBEq, Nat.reduceMod, Nat.reduceDiv, Int.reduceToNat, reduceCtorEq, Int.reduceLT, Int.reduceLE, Int.reduceGT, Int.reduceGE, Int.reduceAdd, Int.reduceSub, Int.reduceMul, Int.reduceNeg, Int.reduceEq, Int.reduceNe, Int.reduceBNe, Int.reduceBEq, Int.reduceDiv, spc4_heavy, spc4_Take, spc4_ref, spc4_num, spc4_Eq, spc4_Item, spc4_Parse, spc4_wakes]
      refine finOne ?_ (fun _ e => by cases e)
      show resOf _ _ [.tmp 2] = _
      simp only [go_sem, ↓reduceIte, Nat.reduceLT, Nat.reduceLeDiff, Nat.reduceAdd, Nat.reduceSub, Nat.reduceMul, Nat.reduceEqDiff, Nat.reduceBEq, Nat.reduceMod, Nat.reduceDiv, Int.reduceToNat, reduceCtorEq, Int.reduceLT, Int.reduceLE, Int.reduceGT, Int.reduceGE, Int.reduceAdd, Int.reduceSub, Int.reduceMul, Int.reduceNeg, Int.reduceEq, Int.reduceNe, Int.reduceBNe, Int.reduceBEq, Int.reduceDiv, spc4_heavy, spc4_Take, spc4_ref, spc4_num, spc4_Eq, spc4_Item, spc4_Parse, spc4_wakes]
theorem law_ItemTakes (x : AV) (h : Ty ti 22 x) (hb : x.bulk ≤ 1048576) : Contract Try.prog 3 [x] (.bool true) := by
  obtain ⟨l, rfl, hl, hok⟩ := ty_asks4 h hb
  exact c_ItemTakes l hl hok
end Go.Proofs.Ytdenldjlijoeoaa.VA
end
