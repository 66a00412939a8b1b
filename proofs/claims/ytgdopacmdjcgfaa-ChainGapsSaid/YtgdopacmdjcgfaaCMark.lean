/- Marks: what mark.Mark, mark.Take, mark.Text and the page's own answers do. -/
import Derived.Test.YtgdopacmdjcgfaaCLib
namespace Go.Proofs.Ytgdopacmdjcgfaa.VA
set_option maxRecDepth 10000
set_option linter.unusedSimpArgs false
set_option linter.unusedVariables false

def markStep (m : Int) (b : UInt8) : Int := IntKind.u64.wrap (IntKind.u64.wrap ((BitVec.ofInt 64 m ^^^ BitVec.ofInt 64 (IntKind.u64.wrap (b.toNat : Int))).toNat) * 1099511628211)
def markFrom' (m : Int) (s : List UInt8) : Int := s.foldl markStep m
def markOf (s : List UInt8) : Int := markFrom' 14695981039346656037 s

theorem mark_take (m : Int) (s : List UInt8) (i : Nat) (b : UInt8) (h : s[i]? = some b) : markFrom' m (s.take (i + 1)) = markStep (markFrom' m (s.take i)) b := by
  unfold markFrom'
  rw [List.take_add_one, h, List.foldl_append]
  rfl

theorem c_mark_Mark (s : List UInt8) (hs : s.length ≤ 9223372036854775806) : Contract Try.prog 110 [.str s] (.int .u64 (markOf s)) := by
  refine contract_of (C := cf 19 [0, 2, 3, 4, 6, 7, 8] (fun _ => [])) (cf_ok _ _ _) (fn := Try.f110) Try.func110 (by kernel_rfl) rfl (by kernel_rfl) (by simp [cf]) (plain1 (.str s)) (by decide) (noCell (by kernel_rfl)) ?_
  simp only [go_sem, ↓reduceIte, Nat.reduceLT, Nat.reduceLeDiff, Nat.reduceAdd, Nat.reduceSub, Nat.reduceMul, Nat.reduceEqDiff, Nat.reduceBEq, Nat.reduceMod, Nat.reduceDiv, Int.reduceToNat, reduceCtorEq, Int.reduceLT, Int.reduceLE, Int.reduceGT, Int.reduceGE, Int.reduceAdd, Int.reduceSub, Int.reduceMul, Int.reduceNeg, Int.reduceEq, Int.reduceNe, Int.reduceBNe, Int.reduceBEq, Int.reduceDiv]
  refine ex_iter [0, 3, 6, 7] (fun i : Nat => ⟨[(0, .str s), (3, .int .u64 (markFrom' 14695981039346656037 (s.take i))), (6, .int .i64 s.length), (7, .int .i64 i)], []⟩) (fun i => i ≤ s.length) (fun i => s.length - i) 0 ?_ ?_ ?_
  · simp only [go_sem, ↓reduceIte, Nat.reduceLT, Nat.reduceLeDiff, Nat.reduceAdd, Nat.reduceSub, Nat.reduceMul, Nat.reduceEqDiff, Nat.reduceBEq, Nat.reduceMod, Nat.reduceDiv, Int.reduceToNat, reduceCtorEq, Int.reduceLT, Int.reduceLE, Int.reduceGT, Int.reduceGE, Int.reduceAdd, Int.reduceSub, Int.reduceMul, Int.reduceNeg, Int.reduceEq, Int.reduceNe, Int.reduceBNe, Int.reduceBEq, Int.reduceDiv]
    rfl
  · exact Nat.zero_le _
  · intro n i hi next
    simp only [go_sem, ↓reduceIte, Nat.reduceLT, Nat.reduceLeDiff, Nat.reduceAdd, Nat.reduceSub, Nat.reduceMul, Nat.reduceEqDiff, Nat.reduceBEq, Nat.reduceMod, Nat.reduceDiv, Int.reduceToNat, reduceCtorEq, Int.reduceLT, Int.reduceLE, Int.reduceGT, Int.reduceGE, Int.reduceAdd, Int.reduceSub, Int.reduceMul, Int.reduceNeg, Int.reduceEq, Int.reduceNe, Int.reduceBNe, Int.reduceBEq, Int.reduceDiv]
    refine ex_br (fun h => ?_) (fun h => ?_)
    · have hlt : i < s.length := by simpa using h
      obtain ⟨b, hb⟩ : ∃ b, s[i]? = some b := ⟨_, List.getElem?_eq_getElem hlt⟩
      simp only [go_sem, ↓reduceIte, Nat.reduceLT, Nat.reduceLeDiff, Nat.reduceAdd, Nat.reduceSub, Nat.reduceMul, Nat.reduceEqDiff, Nat.reduceBEq, Nat.reduceMod, Nat.reduceDiv, Int.reduceToNat, reduceCtorEq, Int.reduceLT, Int.reduceLE, Int.reduceGT, Int.reduceGE, Int.reduceAdd, Int.reduceSub, Int.reduceMul, Int.reduceNeg, Int.reduceEq, Int.reduceNe, Int.reduceBNe, Int.reduceBEq, Int.reduceDiv, Int.toNat_natCast, hb]
      refine ⟨⟨by omega, by omega⟩, ?_⟩
      refine next (i + 1) _ (by omega) (by omega) ?_
      rw [mark_take _ _ _ _ hb, ← wi64_nat i (by omega)]
      simp only [ASt.keep, consIf, keepL, keepV, AV.isBot, List.contains_cons, List.contains_nil, Nat.reduceBEq, Bool.or_false, Bool.false_or, Bool.or_true, Bool.true_or, beq_self_eq_true, Bool.false_eq_true, ↓reduceIte, if_false, if_true]
      rfl
    · have hge : i = s.length := by simp at h; omega
      subst hge
      simp only [go_sem, ↓reduceIte, Nat.reduceLT, Nat.reduceLeDiff, Nat.reduceAdd, Nat.reduceSub, Nat.reduceMul, Nat.reduceEqDiff, Nat.reduceBEq, Nat.reduceMod, Nat.reduceDiv, Int.reduceToNat, reduceCtorEq, Int.reduceLT, Int.reduceLE, Int.reduceGT, Int.reduceGE, Int.reduceAdd, Int.reduceSub, Int.reduceMul, Int.reduceNeg, Int.reduceEq, Int.reduceNe, Int.reduceBNe, Int.reduceBEq, Int.reduceDiv]
      refine finOne ?_ (fun _ e => by cases e)
      show resOf _ _ [.tmp 2] = _
      simp only [go_sem, ↓reduceIte, Nat.reduceLT, Nat.reduceLeDiff, Nat.reduceAdd, Nat.reduceSub, Nat.reduceMul, Nat.reduceEqDiff, Nat.reduceBEq, Nat.reduceMod, Nat.reduceDiv, Int.reduceToNat, reduceCtorEq, Int.reduceLT, Int.reduceLE, Int.reduceGT, Int.reduceGE, Int.reduceAdd, Int.reduceSub, Int.reduceMul, Int.reduceNeg, Int.reduceEq, Int.reduceNe, Int.reduceBNe, Int.reduceBEq, Int.reduceDiv, List.take_length]
      rfl

theorem c_ref4_Mark (s : List UInt8) (hs : s.length ≤ 9223372036854775806) : Contract Try.prog 88 [.str s] (.int .u64 (markOf s)) := by
  refine contract_of (C := cf 19 [0, 2, 3, 4, 8] (fun _ => [])) (cf_ok _ _ _) (fn := Try.f88) Try.func88 (by kernel_rfl) rfl (by kernel_rfl) (by simp [cf]) (plain1 (.str s)) (by decide) (noCell (by kernel_rfl)) ?_
  simp only [go_sem, ↓reduceIte, Nat.reduceLT, Nat.reduceLeDiff, Nat.reduceAdd, Nat.reduceSub, Nat.reduceMul, Nat.reduceEqDiff, Nat.reduceBEq, Nat.reduceMod, Nat.reduceDiv, Int.reduceToNat, reduceCtorEq, Int.reduceLT, Int.reduceLE, Int.reduceGT, Int.reduceGE, Int.reduceAdd, Int.reduceSub, Int.reduceMul, Int.reduceNeg, Int.reduceEq, Int.reduceNe, Int.reduceBNe, Int.reduceBEq, Int.reduceDiv]
  refine ex_iter [0, 3, 4] (fun i : Nat => ⟨[(0, .str s), (3, .int .u64 (markFrom' 14695981039346656037 (s.take i))), (4, .int .i64 i)], []⟩) (fun i => i ≤ s.length) (fun i => s.length - i) 0 ?_ ?_ ?_
  · simp only [ASt.keep, consIf, keepL, keepV, AV.isBot, List.contains_cons, List.contains_nil, Nat.reduceBEq, Bool.or_false, Bool.false_or, Bool.or_true, Bool.true_or, beq_self_eq_true, Bool.false_eq_true, ↓reduceIte, if_false, if_true]
    rfl
  · exact Nat.zero_le _
  · intro n i hi next
    simp only [go_sem, ↓reduceIte, Nat.reduceLT, Nat.reduceLeDiff, Nat.reduceAdd, Nat.reduceSub, Nat.reduceMul, Nat.reduceEqDiff, Nat.reduceBEq, Nat.reduceMod, Nat.reduceDiv, Int.reduceToNat, reduceCtorEq, Int.reduceLT, Int.reduceLE, Int.reduceGT, Int.reduceGE, Int.reduceAdd, Int.reduceSub, Int.reduceMul, Int.reduceNeg, Int.reduceEq, Int.reduceNe, Int.reduceBNe, Int.reduceBEq, Int.reduceDiv]
    refine ex_br (fun h => ?_) (fun h => ?_)
    · have hlt : i < s.length := by simpa using h
      obtain ⟨b, hb⟩ : ∃ b, s[i]? = some b := ⟨_, List.getElem?_eq_getElem hlt⟩
      simp only [go_sem, ↓reduceIte, Nat.reduceLT, Nat.reduceLeDiff, Nat.reduceAdd, Nat.reduceSub, Nat.reduceMul, Nat.reduceEqDiff, Nat.reduceBEq, Nat.reduceMod, Nat.reduceDiv, Int.reduceToNat, reduceCtorEq, Int.reduceLT, Int.reduceLE, Int.reduceGT, Int.reduceGE, Int.reduceAdd, Int.reduceSub, Int.reduceMul, Int.reduceNeg, Int.reduceEq, Int.reduceNe, Int.reduceBNe, Int.reduceBEq, Int.reduceDiv, Int.toNat_natCast, hb]
      refine ⟨⟨by omega, by omega⟩, ?_⟩
      refine next (i + 1) _ (by omega) (by omega) ?_
      rw [mark_take _ _ _ _ hb, ← wi64_nat i (by omega)]
      simp only [ASt.keep, consIf, keepL, keepV, AV.isBot, List.contains_cons, List.contains_nil, Nat.reduceBEq, Bool.or_false, Bool.false_or, Bool.or_true, Bool.true_or, beq_self_eq_true, Bool.false_eq_true, ↓reduceIte, if_false, if_true]
      rfl
    · have hge : i = s.length := by simp at h; omega
      subst hge
      simp only [go_sem, ↓reduceIte, Nat.reduceLT, Nat.reduceLeDiff, Nat.reduceAdd, Nat.reduceSub, Nat.reduceMul, Nat.reduceEqDiff, Nat.reduceBEq, Nat.reduceMod, Nat.reduceDiv, Int.reduceToNat, reduceCtorEq, Int.reduceLT, Int.reduceLE, Int.reduceGT, Int.reduceGE, Int.reduceAdd, Int.reduceSub, Int.reduceMul, Int.reduceNeg, Int.reduceEq, Int.reduceNe, Int.reduceBNe, Int.reduceBEq, Int.reduceDiv]
      refine finOne ?_ (fun _ e => by cases e)
      show resOf _ _ [.tmp 2] = _
      simp only [go_sem, ↓reduceIte, Nat.reduceLT, Nat.reduceLeDiff, Nat.reduceAdd, Nat.reduceSub, Nat.reduceMul, Nat.reduceEqDiff, Nat.reduceBEq, Nat.reduceMod, Nat.reduceDiv, Int.reduceToNat, reduceCtorEq, Int.reduceLT, Int.reduceLE, Int.reduceGT, Int.reduceGE, Int.reduceAdd, Int.reduceSub, Int.reduceMul, Int.reduceNeg, Int.reduceEq, Int.reduceNe, Int.reduceBNe, Int.reduceBEq, Int.reduceDiv, List.take_length]
      rfl

def takeStep (m : Int) (b : UInt8) : Int := IntKind.u64.wrap ((BitVec.ofInt IntKind.u64.bits (IntKind.u64.wrap (m * 2 ^ (min 8 IntKind.u64.bits))) ||| BitVec.ofInt IntKind.u64.bits (IntKind.u64.wrap (b.toNat : Int))).toNat)
def takeOf (s : List UInt8) : Int × Bool := if s.length = 8 then (s.foldl takeStep 0, true) else (0, false)
theorem eight {α : Type} {s : List α} (h : s.length = 8) : ∃ a b c d e f g i, s = [a, b, c, d, e, f, g, i] := by
  match s, h with
  | [a, b, c, d, e, f, g, i], _ => exact ⟨a, b, c, d, e, f, g, i, rfl⟩

def byteAt (m : Int) (k : Int) : UInt8 := UInt8.ofNat (IntKind.u8.wrap (m.fdiv (2 ^ (min k.toNat IntKind.u64.bits)))).toNat
def textOf (m : Int) : List UInt8 := [byteAt m 56, byteAt m 48, byteAt m 40, byteAt m 32, byteAt m 24, byteAt m 16, byteAt m 8, byteAt m 0]

theorem c_mark_Text (m : Int) : Contract Try.prog 90 [.int .u64 m] (.str (textOf m)) := by
  refine contract_of (C := cf 19 [0, 2, 3, 4, 5, 6] (fun _ => [])) (cf_ok _ _ _) (fn := Try.f90) Try.func90 (by kernel_rfl) rfl (by kernel_rfl) (by simp [cf]) (plain1 (.int _ m)) (by decide) (noCell (by kernel_rfl)) ?_
  simp only [go_sem, ↓reduceIte, Nat.reduceLT, Nat.reduceLeDiff, Nat.reduceAdd, Nat.reduceSub, Nat.reduceMul, Nat.reduceEqDiff, Nat.reduceBEq, Nat.reduceMod, Nat.reduceDiv, Int.reduceToNat, reduceCtorEq, Int.reduceLT, Int.reduceLE, Int.reduceGT, Int.reduceGE, Int.reduceAdd, Int.reduceSub, Int.reduceMul, Int.reduceNeg, Int.reduceEq, Int.reduceNe, Int.reduceBNe, Int.reduceBEq, Int.reduceDiv]
  refine ex_loop [0, 3, 5] 9 ?_
  simp only [go_sem, ↓reduceIte, Nat.reduceLT, Nat.reduceLeDiff, Nat.reduceAdd, Nat.reduceSub, Nat.reduceMul, Nat.reduceEqDiff, Nat.reduceBEq, Nat.reduceMod, Nat.reduceDiv, Int.reduceToNat, reduceCtorEq, Int.reduceLT, Int.reduceLE, Int.reduceGT, Int.reduceGE, Int.reduceAdd, Int.reduceSub, Int.reduceMul, Int.reduceNeg, Int.reduceEq, Int.reduceNe, Int.reduceBNe, Int.reduceBEq, Int.reduceDiv, ex_round, Int.cast_ofNat_Int, wi64]
  refine finOne ?_ (fun _ e => by cases e)
  show resOf _ _ [.tmp 2] = _
  simp only [go_sem, ↓reduceIte, Nat.reduceLT, Nat.reduceLeDiff, Nat.reduceAdd, Nat.reduceSub, Nat.reduceMul, Nat.reduceEqDiff, Nat.reduceBEq, Nat.reduceMod, Nat.reduceDiv, Int.reduceToNat, reduceCtorEq, Int.reduceLT, Int.reduceLE, Int.reduceGT, Int.reduceGE, Int.reduceAdd, Int.reduceSub, Int.reduceMul, Int.reduceNeg, Int.reduceEq, Int.reduceNe, Int.reduceBNe, Int.reduceBEq, Int.reduceDiv]
  rfl

theorem c_ref4_MarkText (m : Int) : Contract Try.prog 96 [.int .u64 m] (.str (textOf m)) := by
  refine contract_of (C := cf 19 [0, 2, 3, 4, 6] (fun _ => [])) (cf_ok _ _ _) (fn := Try.f96) Try.func96 (by kernel_rfl) rfl (by kernel_rfl) (by simp [cf]) (plain1 (.int _ m)) (by decide) (noCell (by kernel_rfl)) ?_
  simp only [go_sem, ↓reduceIte, Nat.reduceLT, Nat.reduceLeDiff, Nat.reduceAdd, Nat.reduceSub, Nat.reduceMul, Nat.reduceEqDiff, Nat.reduceBEq, Nat.reduceMod, Nat.reduceDiv, Int.reduceToNat, reduceCtorEq, Int.reduceLT, Int.reduceLE, Int.reduceGT, Int.reduceGE, Int.reduceAdd, Int.reduceSub, Int.reduceMul, Int.reduceNeg, Int.reduceEq, Int.reduceNe, Int.reduceBNe, Int.reduceBEq, Int.reduceDiv]
  refine ex_loop [0, 3, 4] 9 ?_
  simp only [go_sem, ↓reduceIte, Nat.reduceLT, Nat.reduceLeDiff, Nat.reduceAdd, Nat.reduceSub, Nat.reduceMul, Nat.reduceEqDiff, Nat.reduceBEq, Nat.reduceMod, Nat.reduceDiv, Int.reduceToNat, reduceCtorEq, Int.reduceLT, Int.reduceLE, Int.reduceGT, Int.reduceGE, Int.reduceAdd, Int.reduceSub, Int.reduceMul, Int.reduceNeg, Int.reduceEq, Int.reduceNe, Int.reduceBNe, Int.reduceBEq, Int.reduceDiv, ex_round, Int.cast_ofNat_Int, wi64]
  refine finOne ?_ (fun _ e => by cases e)
  show resOf _ _ [.tmp 2] = _
  simp only [go_sem, ↓reduceIte, Nat.reduceLT, Nat.reduceLeDiff, Nat.reduceAdd, Nat.reduceSub, Nat.reduceMul, Nat.reduceEqDiff, Nat.reduceBEq, Nat.reduceMod, Nat.reduceDiv, Int.reduceToNat, reduceCtorEq, Int.reduceLT, Int.reduceLE, Int.reduceGT, Int.reduceGE, Int.reduceAdd, Int.reduceSub, Int.reduceMul, Int.reduceNeg, Int.reduceEq, Int.reduceNe, Int.reduceBNe, Int.reduceBEq, Int.reduceDiv]
  rfl

end Go.Proofs.Ytgdopacmdjcgfaa.VA
