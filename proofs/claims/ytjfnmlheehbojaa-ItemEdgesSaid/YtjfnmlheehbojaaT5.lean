/- Items out of bytes: the head. Items out of bytes: one item, all of them. Items out of bytes: the page's own. Items out of bytes: the page's answer at the top. ItemEdges: the law's function answers true. -/
import Derived.Test.YtjfnmlheehbojaaT1
import Derived.Test.YtjfnmlheehbojaaT2
import Derived.Test.YtjfnmlheehbojaaT3
import Derived.Test.YtjfnmlheehbojaaT4
section
/- Items out of bytes: the head. -/
namespace Go.Proofs.Ytjfnmlheehbojaa.VA
set_option maxRecDepth 10000
set_option linter.unusedSimpArgs false
set_option linter.unusedVariables false
set_option maxHeartbeats 1000000

def hdAv (l : Bool) (f n : Nat) : AV := .agg [.bool l, .int .i64 f, .int .i64 n]
def hdRes : Except Nat (Bool × Nat × Nat) → AV
  | .error e => .tup [.agg [.bool false, .int .i64 (0 : Int), .int .i64 (0 : Int)], .int .i64 e]
  | .ok (l, f, n) => .tup [.agg [.bool l, .int .i64 f, .int .i64 n], .int .i64 (0 : Int)]
theorem num8 {s : List UInt8} (h : s.length ≤ 8) : numOf s < 18446744073709551616 := by
  have h1 := numOf_lt s
  have : (256 : Nat) ^ s.length ≤ 256 ^ 8 := Nat.pow_le_pow_right (by decide) h
  omega
theorem lt_U2 {n : Nat} (h : n < 18446744073709551616) : n < U := by unfold U; omega
theorem c_item_read (s : List UInt8) (hs : s.length ≤ 4294967296) : Contract Try.prog 69 [.str s] (hdRes (hdOf s)) := by
  cases s with
  | nil =>
    refine contract_of (C := cf 73 [0, 2, 3, 4, 5, 6, 7, 9, 19, 23, 31, 44, 66] (fun _ => [])) (cf_ok _ _ _) (fn := Try.f69) Try.func69 (by kernel_rfl) rfl (by kernel_rfl) (by simp [cf]) (plain1 (.str _)) (by decide) (cellsOk (by kernel_rfl)) ?_
    simp only [go_sem, ↓reduceIte, Nat.reduceLT, Nat.reduceLeDiff, Nat.reduceAdd, Nat.reduceSub, Nat.reduceMul, Nat.reduceEqDiff, Nat.reduceBEq, Nat.reduceMod, Nat.reduceDiv, Int.reduceToNat, reduceCtorEq, Int.reduceLT, Int.reduceLE, Int.reduceGT, Int.reduceGE, Int.reduceAdd, Int.reduceSub, Int.reduceMul, Int.reduceNeg, Int.reduceEq, Int.reduceNe, Int.reduceBNe, Int.reduceBEq, Int.reduceDiv]
    refine finTup ?_
    show resOf _ _ [.cell 2 93, .tmp 3] = _
    simp only [go_sem, ↓reduceIte, Nat.reduceLT, Nat.reduceLeDiff, Nat.reduceAdd, Nat.reduceSub, Nat.reduceMul, Nat.reduceEqDiff, Nat.reduceBEq, Nat.reduceMod, Nat.reduceDiv, Int.reduceToNat, reduceCtorEq, Int.reduceLT, Int.reduceLE, Int.reduceGT, Int.reduceGE, Int.reduceAdd, Int.reduceSub, Int.reduceMul, Int.reduceNeg, Int.reduceEq, Int.reduceNe, Int.reduceBNe, Int.reduceBEq, Int.reduceDiv]
    rfl
  | cons b t =>
    rw [List.length_cons] at hs
    have hb : b.toNat < 256 := b.toNat_lt
    have wb : IntKind.i64.wrap (b.toNat : Int) = (b.toNat : Int) := wi64n _ (by omega)
    have hpos : (0 : Int) < ((t.length + 1 : Nat) : Int) := by omega
    rw [hd_cons]
    rcases Decidable.em (b.toNat < 128) with h1 | h1
    · rw [if_pos h1]
      refine contract_of (C := cf 73 [0, 2, 3, 4, 5, 6, 7, 9, 19, 23, 31, 44, 66] (fun _ => [])) (cf_ok _ _ _) (fn := Try.f69) Try.func69 (by kernel_rfl) rfl (by kernel_rfl) (by simp [cf]) (plain1 (.str _)) (by decide) (cellsOk (by kernel_rfl)) ?_
      have e1 : decide ((b.toNat : Int) < 128) = true := decide_eq_true (by omega)
      have e0 : ((b :: t) == ([] : List UInt8)) = false := rfl
      simp only [go_sem, ↓reduceIte, Nat.reduceLT, Nat.reduceLeDiff, Nat.reduceAdd, Nat.reduceSub, Nat.reduceMul, Nat.reduceEqDiff, Nat.reduceBEq, Nat.reduceMod, Nat.reduceDiv, Int.reduceToNat, reduceCtorEq, Int.reduceLT, Int.reduceLE, Int.reduceGT, Int.reduceGE, Int.reduceAdd, Int.reduceSub, Int.reduceMul, Int.reduceNeg, Int.reduceEq, Int.reduceNe, Int.reduceBNe, Int.reduceBEq, Int.reduceDiv, e0, e1, wb, hpos]
      refine finTup ?_
      show resOf _ _ [.cell 2 93, .tmp 3] = _
      simp only [go_sem, ↓reduceIte, Nat.reduceLT, Nat.reduceLeDiff, Nat.reduceAdd, Nat.reduceSub, Nat.reduceMul, Nat.reduceEqDiff, Nat.reduceBEq, Nat.reduceMod, Nat.reduceDiv, Int.reduceToNat, reduceCtorEq, Int.reduceLT, Int.reduceLE, Int.reduceGT, Int.reduceGE, Int.reduceAdd, Int.reduceSub, Int.reduceMul, Int.reduceNeg, Int.reduceEq, Int.reduceNe, Int.reduceBNe, Int.reduceBEq, Int.reduceDiv, hdRes]
      rfl
    · rw [if_neg h1]
      have main : ∀ (l : Bool) (m : Nat), decide (192 ≤ b.toNat) = l → hdLen b = m → Contract Try.prog 69 [.str (b :: t)] (hdRes (hdRest l m t)) := by
        intro l m hl hm
        have hm64 : m < 64 := by rw [← hm]; unfold hdLen; split <;> omega
        have hk : 1 + (m - 55) - 1 = m - 55 := by omega
        have hql : (t.take (m - 55)).length ≤ 8 := by rw [List.length_take]; omega
        have hu := c_u256_Take (t.take (m - 55)) (by omega)
        have hv := num8 hql
        have hc := c_u256_Cmp (numOf (t.take (m - 55))) 65536 (lt_U2 hv) (lt_U2 (by omega))
        have e5 : decide (cmpOf (numOf (t.take (m - 55))) 65536 > 0) = decide (numOf (t.take (m - 55)) > 65536) := by
          unfold cmpOf
          refine decide_congr ?_
          split
          · omega
          · split <;> omega
        rw [u_small _ hv, u_small 65536 (by omega)] at hc
        have e0 : ((b :: t) == ([] : List UInt8)) = false := rfl
        have e1 : decide ((b.toNat : Int) < 128) = false := decide_eq_false (by omega)
        have e2 : decide ((b.toNat : Int) ≥ 192) = l := by rw [← hl]; exact decide_congr (by omega)
        have w128 : IntKind.i64.wrap ((b.toNat : Int) - 128) = (b.toNat : Int) - 128 := wi64 (by omega) (by omega)
        have w192 : IntKind.i64.wrap ((b.toNat : Int) - 192) = (b.toNat : Int) - 192 := wi64 (by omega) (by omega)
        unfold hdRest
        refine contract_of (C := cf 73 [0, 2, 3, 4, 5, 6, 7, 9, 19, 23, 31, 44, 66] (fun _ => [])) (cf_ok _ _ _) (fn := Try.f69) Try.func69 (by kernel_rfl) rfl (by kernel_rfl) (by simp [cf]) (plain1 (.str _)) (by decide) (cellsOk (by kernel_rfl)) ?_
        simp only [go_sem, ↓reduceIte, Nat.reduceLT, Nat.reduceLeDiff, Nat.reduceAdd, Nat.reduceSub, Nat.reduceMul, Nat.reduceEqDiff, Nat.reduceBEq, Nat.reduceMod, Nat.reduceDiv, Int.reduceToNat, reduceCtorEq, Int.reduceLT, Int.reduceLE, Int.reduceGT, Int.reduceGE, Int.reduceAdd, Int.reduceSub, Int.reduceMul, Int.reduceNeg, Int.reduceEq, Int.reduceNe, Int.reduceBNe, Int.reduceBEq, Int.reduceDiv, e0, e1, e2, wb, hpos, w128]
        cases l
        case' true =>
          have hm2 : (b.toNat : Int) - 192 = (m : Int) := by
            have : 192 ≤ b.toNat := of_decide_eq_true hl
            rw [← hm]; unfold hdLen; rw [if_pos this]; omega
          simp only [go_sem, ↓reduceIte, Nat.reduceLT, Nat.reduceLeDiff, Nat.reduceAdd, Nat.reduceSub, Nat.reduceMul, Nat.reduceEqDiff, Nat.reduceBEq, Nat.reduceMod, Nat.reduceDiv, Int.reduceToNat, reduceCtorEq, Int.reduceLT, Int.reduceLE, Int.reduceGT, Int.reduceGE, Int.reduceAdd, Int.reduceSub, Int.reduceMul, Int.reduceNeg, Int.reduceEq, Int.reduceNe, Int.reduceBNe, Int.reduceBEq, Int.reduceDiv, w192, hm2, wi64n m (by omega)]
        case' false =>
          have hm2 : (b.toNat : Int) - 128 = (m : Int) := by
            have : ¬ 192 ≤ b.toNat := of_decide_eq_false hl
            rw [← hm]; unfold hdLen; rw [if_neg this]; omega
          rw [hm2]
          simp only [go_sem, ↓reduceIte, Nat.reduceLT, Nat.reduceLeDiff, Nat.reduceAdd, Nat.reduceSub, Nat.reduceMul, Nat.reduceEqDiff, Nat.reduceBEq, Nat.reduceMod, Nat.reduceDiv, Int.reduceToNat, reduceCtorEq, Int.reduceLT, Int.reduceLE, Int.reduceGT, Int.reduceGE, Int.reduceAdd, Int.reduceSub, Int.reduceMul, Int.reduceNeg, Int.reduceEq, Int.reduceNe, Int.reduceBNe, Int.reduceBEq, Int.reduceDiv]
        all_goals
          rcases Decidable.em (m ≤ 55) with h55 | h55
          · have e3 : decide ((m : Int) ≤ 55) = true := decide_eq_true (by omega)
            rw [if_pos h55, e3]
            simp only [go_sem, ↓reduceIte, Nat.reduceLT, Nat.reduceLeDiff, Nat.reduceAdd, Nat.reduceSub, Nat.reduceMul, Nat.reduceEqDiff, Nat.reduceBEq, Nat.reduceMod, Nat.reduceDiv, Int.reduceToNat, reduceCtorEq, Int.reduceLT, Int.reduceLE, Int.reduceGT, Int.reduceGE, Int.reduceAdd, Int.reduceSub, Int.reduceMul, Int.reduceNeg, Int.reduceEq, Int.reduceNe, Int.reduceBNe, Int.reduceBEq, Int.reduceDiv]
            refine finTup ?_
            show resOf _ _ [.cell 2 93, .tmp 3] = _
            simp only [go_sem, ↓reduceIte, Nat.reduceLT, Nat.reduceLeDiff, Nat.reduceAdd, Nat.reduceSub, Nat.reduceMul, Nat.reduceEqDiff, Nat.reduceBEq, Nat.reduceMod, Nat.reduceDiv, Int.reduceToNat, reduceCtorEq, Int.reduceLT, Int.reduceLE, Int.reduceGT, Int.reduceGE, Int.reduceAdd, Int.reduceSub, Int.reduceMul, Int.reduceNeg, Int.reduceEq, Int.reduceNe, Int.reduceBNe, Int.reduceBEq, Int.reduceDiv, hdRes]
            rfl
          · have e3 : decide ((m : Int) ≤ 55) = false := decide_eq_false (by omega)
            have w55 : IntKind.i64.wrap ((m : Int) - 55) = ((m - 55 : Nat) : Int) := by rw [wi64 (by omega) (by omega)]; omega
            have wf : IntKind.i64.wrap (1 + ((m - 55 : Nat) : Int)) = ((1 + (m - 55) : Nat) : Int) := by rw [wi64 (by omega) (by omega)]; omega
            rw [if_neg h55, e3]
            rcases Decidable.em (t.length < m - 55) with hlt | hlt
            · have e4 : decide (((t.length + 1 : Nat) : Int) < ((1 + (m - 55) : Nat) : Int)) = true := decide_eq_true (by omega)
              rw [if_pos hlt]
              simp only [go_sem, ↓reduceIte, Nat.reduceLT, Nat.reduceLeDiff, Nat.reduceAdd, Nat.reduceSub, Nat.reduceMul, Nat.reduceEqDiff, Nat.reduceBEq, Nat.reduceMod, Nat.reduceDiv, Int.reduceToNat, reduceCtorEq, Int.reduceLT, Int.reduceLE, Int.reduceGT, Int.reduceGE, Int.reduceAdd, Int.reduceSub, Int.reduceMul, Int.reduceNeg, Int.reduceEq, Int.reduceNe, Int.reduceBNe, Int.reduceBEq, Int.reduceDiv, w55, wf, e4]
              refine finTup ?_
              show resOf _ _ [.cell 2 93, .tmp 3] = _
              simp only [go_sem, ↓reduceIte, Nat.reduceLT, Nat.reduceLeDiff, Nat.reduceAdd, Nat.reduceSub, Nat.reduceMul, Nat.reduceEqDiff, Nat.reduceBEq, Nat.reduceMod, Nat.reduceDiv, Int.reduceToNat, reduceCtorEq, Int.reduceLT, Int.reduceLE, Int.reduceGT, Int.reduceGE, Int.reduceAdd, Int.reduceSub, Int.reduceMul, Int.reduceNeg, Int.reduceEq, Int.reduceNe, Int.reduceBNe, Int.reduceBEq, Int.reduceDiv, hdRes]
              rfl
            · have e4 : decide (((t.length + 1 : Nat) : Int) < ((1 + (m - 55) : Nat) : Int)) = false := decide_eq_false (by omega)
              rw [if_neg hlt]
              simp only [go_sem, ↓reduceIte, Nat.reduceLT, Nat.reduceLeDiff, Nat.reduceAdd, Nat.reduceSub, Nat.reduceMul, Nat.reduceEqDiff, Nat.reduceBEq, Nat.reduceMod, Nat.reduceDiv, Int.reduceToNat, reduceCtorEq, Int.reduceLT, Int.reduceLE, Int.reduceGT, Int.reduceGE, Int.reduceAdd, Int.reduceSub, Int.reduceMul, Int.reduceNeg, Int.reduceEq, Int.reduceNe, Int.reduceBNe, Int.reduceBEq, Int.reduceDiv, w55, wf, e4, Int.toNat_natCast]
              refine ⟨by omega, ?_⟩
              rw [hk]
              rcases Decidable.em (t.head? = some 0) with hz | hz
              · have htu : takeU (t.take (m - 55)) = (0, false) := by
                  unfold takeU
                  rw [if_pos (.inr (by rw [List.head?_take, if_neg (by omega)]; exact hz))]
                rw [htu, u_zero] at hu
                rw [if_pos hz]
                refine ex_call (by exact hu) ?_
                simp only [go_sem, ↓reduceIte, Nat.reduceLT, Nat.reduceLeDiff, Nat.reduceAdd, Nat.reduceSub, Nat.reduceMul, Nat.reduceEqDiff, Nat.reduceBEq, Nat.reduceMod, Nat.reduceDiv, Int.reduceToNat, reduceCtorEq, Int.reduceLT, Int.reduceLE, Int.reduceGT, Int.reduceGE, Int.reduceAdd, Int.reduceSub, Int.reduceMul, Int.reduceNeg, Int.reduceEq, Int.reduceNe, Int.reduceBNe, Int.reduceBEq, Int.reduceDiv]
                refine finTup ?_
                show resOf _ _ [.cell 2 93, .tmp 3] = _
                simp only [go_sem, ↓reduceIte, Nat.reduceLT, Nat.reduceLeDiff, Nat.reduceAdd, Nat.reduceSub, Nat.reduceMul, Nat.reduceEqDiff, Nat.reduceBEq, Nat.reduceMod, Nat.reduceDiv, Int.reduceToNat, reduceCtorEq, Int.reduceLT, Int.reduceLE, Int.reduceGT, Int.reduceGE, Int.reduceAdd, Int.reduceSub, Int.reduceMul, Int.reduceNeg, Int.reduceEq, Int.reduceNe, Int.reduceBNe, Int.reduceBEq, Int.reduceDiv, hdRes]
                rfl
              · have htu : takeU (t.take (m - 55)) = (numOf (t.take (m - 55)), true) := by
                  unfold takeU
                  rw [if_neg (fun h => by
                    rcases h with h | h
                    · omega
                    · rw [List.head?_take, if_neg (by omega)] at h; exact hz h)]
                rw [htu, u_small _ hv] at hu
                rw [if_neg hz]
                refine ex_call (by exact hu) ?_
                generalize numOf (t.take (m - 55)) = v at *
                simp only [go_sem, ↓reduceIte, Nat.reduceLT, Nat.reduceLeDiff, Nat.reduceAdd, Nat.reduceSub, Nat.reduceMul, Nat.reduceEqDiff, Nat.reduceBEq, Nat.reduceMod, Nat.reduceDiv, Int.reduceToNat, reduceCtorEq, Int.reduceLT, Int.reduceLE, Int.reduceGT, Int.reduceGE, Int.reduceAdd, Int.reduceSub, Int.reduceMul, Int.reduceNeg, Int.reduceEq, Int.reduceNe, Int.reduceBNe, Int.reduceBEq, Int.reduceDiv]
                refine ex_call (by exact hc) ?_
                rcases Decidable.em (v > 65536) with h6 | h6
                · rw [if_pos (.inl h6)]
                  rw [decide_eq_true h6] at e5
                  simp only [go_sem, ↓reduceIte, Nat.reduceLT, Nat.reduceLeDiff, Nat.reduceAdd, Nat.reduceSub, Nat.reduceMul, Nat.reduceEqDiff, Nat.reduceBEq, Nat.reduceMod, Nat.reduceDiv, Int.reduceToNat, reduceCtorEq, Int.reduceLT, Int.reduceLE, Int.reduceGT, Int.reduceGE, Int.reduceAdd, Int.reduceSub, Int.reduceMul, Int.reduceNeg, Int.reduceEq, Int.reduceNe, Int.reduceBNe, Int.reduceBEq, Int.reduceDiv, e5]
                  refine finTup ?_
                  show resOf _ _ [.cell 2 93, .tmp 3] = _
                  simp only [go_sem, ↓reduceIte, Nat.reduceLT, Nat.reduceLeDiff, Nat.reduceAdd, Nat.reduceSub, Nat.reduceMul, Nat.reduceEqDiff, Nat.reduceBEq, Nat.reduceMod, Nat.reduceDiv, Int.reduceToNat, reduceCtorEq, Int.reduceLT, Int.reduceLE, Int.reduceGT, Int.reduceGE, Int.reduceAdd, Int.reduceSub, Int.reduceMul, Int.reduceNeg, Int.reduceEq, Int.reduceNe, Int.reduceBNe, Int.reduceBEq, Int.reduceDiv, hdRes]
                  rfl
                · have wv : IntKind.i64.wrap (v : Int) = (v : Int) := wi64n v (by omega)
                  rw [decide_eq_false h6] at e5
                  rcases Decidable.em (v ≤ 55) with h7 | h7
                  · have e7 : decide ((v : Int) ≤ 55) = true := decide_eq_true (by omega)
                    rw [if_pos (.inr h7)]
                    simp only [go_sem, ↓reduceIte, Nat.reduceLT, Nat.reduceLeDiff, Nat.reduceAdd, Nat.reduceSub, Nat.reduceMul, Nat.reduceEqDiff, Nat.reduceBEq, Nat.reduceMod, Nat.reduceDiv, Int.reduceToNat, reduceCtorEq, Int.reduceLT, Int.reduceLE, Int.reduceGT, Int.reduceGE, Int.reduceAdd, Int.reduceSub, Int.reduceMul, Int.reduceNeg, Int.reduceEq, Int.reduceNe, Int.reduceBNe, Int.reduceBEq, Int.reduceDiv, e5, e7, Int.cast_ofNat_Int]
                    refine finTup ?_
                    show resOf _ _ [.cell 2 93, .tmp 3] = _
                    simp only [go_sem, ↓reduceIte, Nat.reduceLT, Nat.reduceLeDiff, Nat.reduceAdd, Nat.reduceSub, Nat.reduceMul, Nat.reduceEqDiff, Nat.reduceBEq, Nat.reduceMod, Nat.reduceDiv, Int.reduceToNat, reduceCtorEq, Int.reduceLT, Int.reduceLE, Int.reduceGT, Int.reduceGE, Int.reduceAdd, Int.reduceSub, Int.reduceMul, Int.reduceNeg, Int.reduceEq, Int.reduceNe, Int.reduceBNe, Int.reduceBEq, Int.reduceDiv, hdRes]
                    rfl
                  · have e7 : decide ((v : Int) ≤ 55) = false := decide_eq_false (by omega)
                    rw [if_neg (by omega)]
                    simp only [go_sem, ↓reduceIte, Nat.reduceLT, Nat.reduceLeDiff, Nat.reduceAdd, Nat.reduceSub, Nat.reduceMul, Nat.reduceEqDiff, Nat.reduceBEq, Nat.reduceMod, Nat.reduceDiv, Int.reduceToNat, reduceCtorEq, Int.reduceLT, Int.reduceLE, Int.reduceGT, Int.reduceGE, Int.reduceAdd, Int.reduceSub, Int.reduceMul, Int.reduceNeg, Int.reduceEq, Int.reduceNe, Int.reduceBNe, Int.reduceBEq, Int.reduceDiv, e5, e7, wv, Int.cast_ofNat_Int]
                    refine finTup ?_
                    show resOf _ _ [.cell 2 93, .tmp 3] = _
                    simp only [go_sem, ↓reduceIte, Nat.reduceLT, Nat.reduceLeDiff, Nat.reduceAdd, Nat.reduceSub, Nat.reduceMul, Nat.reduceEqDiff, Nat.reduceBEq, Nat.reduceMod, Nat.reduceDiv, Int.reduceToNat, reduceCtorEq, Int.reduceLT, Int.reduceLE, Int.reduceGT, Int.reduceGE, Int.reduceAdd, Int.reduceSub, Int.reduceMul, Int.reduceNeg, Int.reduceEq, Int.reduceNe, Int.reduceBNe, Int.reduceBEq, Int.reduceDiv, hdRes]
      exact main _ _ rfl rfl
end Go.Proofs.Ytjfnmlheehbojaa.VA
end
section
/- Items out of bytes: one item, all of them. -/
namespace Go.Proofs.Ytjfnmlheehbojaa.VA
set_option maxRecDepth 10000
set_option linter.unusedSimpArgs false
set_option linter.unusedVariables false
set_option maxHeartbeats 16000000

theorem hd_err {s : List UInt8} {e : Nat} (h : hdOf s = .error e) : e = 7 ∨ e = 1 := by
  cases s with
  | nil => cases h; exact .inl rfl
  | cons b t =>
    rw [hd_cons] at h
    split at h
    · cases h
    · unfold hdRest at h
      split at h
      · cases h
      · split at h
        · cases h; exact .inl rfl
        · split at h
          · cases h; exact .inr rfl
          · split at h
            · cases h; exact .inr rfl
            · cases h
theorem hd_bounds {s : List UInt8} {l : Bool} {f n : Nat} (h : hdOf s = .ok (l, f, n)) : f ≤ 6 ∧ n ≤ 65536 ∧ (l = true → 1 ≤ f) := by
  rcases hd_back h with ⟨rfl, rfl, rfl, _⟩ | ⟨h1, h2, h3, h4⟩
  · exact ⟨by omega, by omega, fun e => by cases e⟩
  · have := ahead_le (n := n) (by omega)
    have := ahead_pos n
    exact ⟨by omega, h3, fun _ => by omega⟩
/-- What one tells, at any depth. -/
def oneR (d : Nat) (s : List UInt8) : Except Nat (ItemD × Nat) :=
  match hdOf s with
  | .error e => .error e
  | .ok (l, f, n) =>
    if (l = true ∧ 16 ≤ d) ∨ 65536 < f + n then .error 1
    else if s.length < f + n then .error 7
    else if l = false then (if 0 < f ∧ aloneB ((s.drop f).take n) = true then .error 1 else .ok (.mk false ((s.drop f).take n) [], f + n))
    else match itemsP (d + 1) ((s.drop f).take n) with
      | some xs => .ok (.mk true [] xs, f + n)
      | none => .error 1
theorem one_parse (d : Nat) (s : List UInt8) : match oneR d s with | .ok r => parse d s = .ok r | .error e => ∃ e', parse d s = .error e' ∧ (d < 16 → e' = e) := by
  unfold oneR
  rw [parse]
  cases hh : hdOf s with
  | error e => exact ⟨e, rfl, fun _ => rfl⟩
  | ok r =>
    obtain ⟨l, f, n⟩ := r
    obtain ⟨b1, b2, b3⟩ := hd_bounds hh
    simp only
    cases l with
    | false =>
      rcases Decidable.em (f + n > 65536) with h1 | h1
      · rw [if_pos (.inr h1), if_pos h1]; exact ⟨1, rfl, fun _ => rfl⟩
      · rw [if_neg (show ¬ ((false = true ∧ 16 ≤ d) ∨ 65536 < f + n) from fun h => h.elim (fun h => by cases h.1) h1), if_neg h1]
        rcases Decidable.em (s.length < f + n) with h2 | h2
        · rw [if_pos h2, if_pos h2]; exact ⟨7, rfl, fun _ => rfl⟩
        · rw [if_neg h2, if_neg h2, if_pos rfl, if_pos rfl]
          split
          · rename_i r' e
            split at e <;> first | (cases e; done) | skip
            rename_i h3
            rw [if_neg h3]; exact e
          · rename_i e' e
            split at e
            · rename_i h3
              rw [if_pos h3]; cases e; exact ⟨1, rfl, fun _ => rfl⟩
            · cases e
    | true =>
      have hf := b3 rfl
      rcases Decidable.em (f + n > 65536) with h1 | h1
      · rw [if_pos (.inr h1), if_pos h1]; exact ⟨1, rfl, fun _ => rfl⟩
      · rw [if_neg h1]
        rcases Decidable.em (16 ≤ d) with h4 | h4
        · rw [if_pos (.inl ⟨rfl, h4⟩)]
          rcases Decidable.em (s.length < f + n) with h2 | h2
          · rw [if_pos h2]; exact ⟨7, rfl, fun h => absurd h (by omega)⟩
          · rw [if_neg h2, if_neg (by simp), if_pos h4]; exact ⟨1, rfl, fun _ => rfl⟩
        · rw [if_neg (show ¬ ((true = true ∧ 16 ≤ d) ∨ 65536 < f + n) from fun h => h.elim (fun h => h4 h.2) h1)]
          rcases Decidable.em (s.length < f + n) with h2 | h2
          · rw [if_pos h2, if_pos h2]; exact ⟨7, rfl, fun _ => rfl⟩
          · have hb : ((s.drop f).take n).length < s.length := by rw [List.length_take, List.length_drop]; omega
            rw [if_neg h2, if_neg h2, if_neg (by simp), if_neg (by simp), if_neg h4, dif_pos hb]
            cases itemsP (d + 1) ((s.drop f).take n) with
            | none => exact ⟨1, rfl, fun _ => rfl⟩
            | some xs => rfl
theorem one_zero (s : List UInt8) : oneR 0 s = parse 0 s := by
  have h := one_parse 0 s
  cases ho : oneR 0 s with
  | ok r => rw [ho] at h; exact h.symm
  | error e => rw [ho] at h; obtain ⟨e', h1, h2⟩ := h; rw [h1, h2 (by decide)]
theorem items_one {d : Nat} {s : List UInt8} (hs : s ≠ []) : itemsP d s = match oneR d s with
    | .error _ => none
    | .ok (x, k) => (itemsP d (s.drop k)).map (x :: ·) := by
  have h := one_parse d s
  rw [itemsP_cons hs]
  cases ho : oneR d s with
  | ok r =>
    rw [ho] at h
    obtain ⟨x, k⟩ := r
    have h : parse d s = .ok (x, k) := h
    have := (parse_ok h).pos
    rw [h]
    simp only
    rw [if_pos (by omega)]
  | error e => rw [ho] at h; obtain ⟨e', h1, h2⟩ := h; rw [h1]
def resP : Except Nat (ItemD × Nat) → AV
  | .error e => .tup [.agg [.bool false, .str [], .sl false 3 []], .int .i64 (0 : Int), .int .i64 (e : Int)]
  | .ok (it, k) => .tup [.agg [.bool it.list, .str it.text, .sl false 3 (it.items.map ItemD.av)], .int .i64 (k : Int), .int .i64 (0 : Int)]
theorem fins3 {a b : AV} (h : Dull a b) (r : List AV) : Fins (a :: r) (b :: r) := .cons (.dull h) (finsRefl _)
theorem dull_item (l : Bool) (t : List UInt8) (fr : Bool) (es : List AV) : Dull (.agg [.bool l, .str t, .sl fr 3 es]) (.agg [.bool l, .str t, .sl false 3 es]) := dulls_agg (.cons (.refl _) (.cons (.refl _) (.cons (dsl _ _ _) .nil)))
theorem dull_none (l : Bool) (t : List UInt8) : Dull (.agg [.bool l, .str t, .ext nilP]) (.agg [.bool l, .str t, .sl false 3 []]) := dulls_agg (.cons (.refl _) (.cons (.refl _) (.cons (.nil _ _) .nil)))
theorem c_one (N : Nat) : ∀ (s : List UInt8) (d : Nat), s.length ≤ N → s.length ≤ 16777216 → d ≤ 16 → Contract Try.prog 61 [.str s, .int .i64 d] (resP (oneR d s)) := by
  induction N using Nat.strongRecOn with
  | _ N ih =>
    intro s d hN hs hd
    have hr := c_item_read s (by omega)
    have wd : IntKind.i64.wrap ((d : Int) + 1) = ((d + 1 : Nat) : Int) := wi64_nat d (by omega)
    cases hh : hdOf s with
    | error e =>
      have he := hd_err hh
      have e0 : ((e : Int) != 0) = true := by rcases he with rfl | rfl <;> rfl
      have ho : oneR d s = .error e := by unfold oneR; rw [hh]
      rw [ho]
      rw [hh] at hr
      unfold hdRes at hr
      refine contract_of (C := cf 104 [0, 1, 4, 5, 6, 7, 8, 9, 10, 11, 12, 19, 27, 39, 45, 63, 81, 91] (fun _ => [])) (cf_ok _ _ _) (fn := Try.f61) Try.func61 (by kernel_rfl) rfl (by kernel_rfl) (by simp [cf]) (plain2 (.str _) (.int _ _)) (by decide) (cellsOk (by kernel_rfl)) ?_
      simp only [go_sem, ↓reduceIte, Nat.reduceLT, Nat.reduceLeDiff, Nat.reduceAdd, Nat.reduceSub, Nat.reduceMul, Nat.reduceEqDiff, Nat.reduceBEq, Nat.reduceMod, Nat.reduceDiv, Int.reduceToNat, reduceCtorEq, Int.reduceLT, Int.reduceLE, Int.reduceGT, Int.reduceGE, Int.reduceAdd, Int.reduceSub, Int.reduceMul, Int.reduceNeg, Int.reduceEq, Int.reduceNe, Int.reduceBNe, Int.reduceBEq, Int.reduceDiv]
      refine ex_call (by exact hr) ?_
      simp only [go_sem, ↓reduceIte, Nat.reduceLT, Nat.reduceLeDiff, Nat.reduceAdd, Nat.reduceSub, Nat.reduceMul, Nat.reduceEqDiff, Nat.reduceBEq, Nat.reduceMod, Nat.reduceDiv, Int.reduceToNat, reduceCtorEq, Int.reduceLT, Int.reduceLE, Int.reduceGT, Int.reduceGE, Int.reduceAdd, Int.reduceSub, Int.reduceMul, Int.reduceNeg, Int.reduceEq, Int.reduceNe, Int.reduceBNe, Int.reduceBEq, Int.reduceDiv, e0]
      refine finTupD (vs' := [.agg [.bool false, .str [], .ext nilP], .int .i64 (0 : Int), .int .i64 (e : Int)]) ?_ (fins3 (dull_none _ _) _)
      show resOf _ _ [.cell 4 54, .tmp 5, .tmp 6] = _
      simp only [go_sem, ↓reduceIte, Nat.reduceLT, Nat.reduceLeDiff, Nat.reduceAdd, Nat.reduceSub, Nat.reduceMul, Nat.reduceEqDiff, Nat.reduceBEq, Nat.reduceMod, Nat.reduceDiv, Int.reduceToNat, reduceCtorEq, Int.reduceLT, Int.reduceLE, Int.reduceGT, Int.reduceGE, Int.reduceAdd, Int.reduceSub, Int.reduceMul, Int.reduceNeg, Int.reduceEq, Int.reduceNe, Int.reduceBNe, Int.reduceBEq, Int.reduceDiv]
    | ok r =>
      obtain ⟨l, f, n⟩ := r
      obtain ⟨b1, b2, b3⟩ := hd_bounds hh
      rw [hh] at hr
      unfold hdRes at hr
      have wfn : IntKind.i64.wrap ((f : Int) + (n : Int)) = ((f + n : Nat) : Int) := by rw [wi64 (by omega) (by omega)]; omega
      have hsub : f + n - f = n := by omega
      refine contract_of (C := cf 104 [0, 1, 4, 5, 6, 7, 8, 9, 10, 11, 12, 19, 27, 39, 45, 63, 81, 91] (fun _ => [])) (cf_ok _ _ _) (fn := Try.f61) Try.func61 (by kernel_rfl) rfl (by kernel_rfl) (by simp [cf]) (plain2 (.str _) (.int _ _)) (by decide) (cellsOk (by kernel_rfl)) ?_
      simp only [go_sem, ↓reduceIte, Nat.reduceLT, Nat.reduceLeDiff, Nat.reduceAdd, Nat.reduceSub, Nat.reduceMul, Nat.reduceEqDiff, Nat.reduceBEq, Nat.reduceMod, Nat.reduceDiv, Int.reduceToNat, reduceCtorEq, Int.reduceLT, Int.reduceLE, Int.reduceGT, Int.reduceGE, Int.reduceAdd, Int.reduceSub, Int.reduceMul, Int.reduceNeg, Int.reduceEq, Int.reduceNe, Int.reduceBNe, Int.reduceBEq, Int.reduceDiv]
      refine ex_call (by exact hr) ?_
      unfold oneR
      rw [hh]
      simp only
      rcases Decidable.em ((l = true ∧ 16 ≤ d) ∨ 65536 < f + n) with h1 | h1
      · rw [if_pos h1]
        have e1 : decide (((f + n : Nat) : Int) > 65536) = decide (65536 < f + n) := decide_congr (by omega)
        have e2 : decide ((d : Int) ≥ 16) = decide (16 ≤ d) := decide_congr (by omega)
        have e3 : (l && decide (16 ≤ d) || decide (65536 < f + n)) = true := by
          cases l <;> simp_all
        simp only [go_sem, ↓reduceIte, Nat.reduceLT, Nat.reduceLeDiff, Nat.reduceAdd, Nat.reduceSub, Nat.reduceMul, Nat.reduceEqDiff, Nat.reduceBEq, Nat.reduceMod, Nat.reduceDiv, Int.reduceToNat, reduceCtorEq, Int.reduceLT, Int.reduceLE, Int.reduceGT, Int.reduceGE, Int.reduceAdd, Int.reduceSub, Int.reduceMul, Int.reduceNeg, Int.reduceEq, Int.reduceNe, Int.reduceBNe, Int.reduceBEq, Int.reduceDiv, wfn]
        refine ex_joinB 27 (l && decide (16 ≤ d) || decide (65536 < f + n)) ?_ ?_
        · repeat' (first | (refine ex_split (fun h => ?_) (fun h => ?_)) | (with_reducible refine And.intro (by omega) ?_) |
            (simp only [go_sem, ↓reduceIte, Nat.reduceLT, Nat.reduceLeDiff, Nat.reduceAdd, Nat.reduceSub, Nat.reduceMul, Nat.reduceEqDiff, Nat.reduceBEq, Nat.reduceMod, Nat.reduceDiv, Int.reduceToNat, reduceCtorEq, Int.reduceLT, Int.reduceLE, Int.reduceGT, Int.reduceGE, Int.reduceAdd, Int.reduceSub, Int.reduceMul, Int.reduceNeg, Int.reduceEq, Int.reduceNe, Int.reduceBNe, Int.reduceBEq, Int.reduceDiv, wfn, e1, e2]))
          all_goals (try simp only [ASt.mk.injEq, List.cons.injEq, Prod.mk.injEq, AV.bool.injEq, true_and, and_true, eq_self])
          all_goals first | (simp_all; done) | (simp_all; omega) | (rw [Bool.eq_iff_iff]; simp only [List.length_map, Bool.or_eq_true, Bool.and_eq_true, Bool.not_eq_true', Bool.not_eq_false', decide_eq_true_eq, decide_eq_false_iff_not, bne_iff_ne, beq_iff_eq, ne_eq, true_iff, iff_true, false_iff, iff_false, Bool.false_eq_true, not_false_eq_true, not_true_eq_false] at *; omega)
        rw [e3]
        simp only [go_sem, ↓reduceIte, Nat.reduceLT, Nat.reduceLeDiff, Nat.reduceAdd, Nat.reduceSub, Nat.reduceMul, Nat.reduceEqDiff, Nat.reduceBEq, Nat.reduceMod, Nat.reduceDiv, Int.reduceToNat, reduceCtorEq, Int.reduceLT, Int.reduceLE, Int.reduceGT, Int.reduceGE, Int.reduceAdd, Int.reduceSub, Int.reduceMul, Int.reduceNeg, Int.reduceEq, Int.reduceNe, Int.reduceBNe, Int.reduceBEq, Int.reduceDiv]
        refine finTupD (vs' := [.agg [.bool false, .str [], .ext nilP], .int .i64 (0 : Int), .int .i64 (1 : Int)]) ?_ (fins3 (dull_none _ _) _)
        show resOf _ _ [.cell 4 54, .tmp 5, .tmp 6] = _
        simp only [go_sem, ↓reduceIte, Nat.reduceLT, Nat.reduceLeDiff, Nat.reduceAdd, Nat.reduceSub, Nat.reduceMul, Nat.reduceEqDiff, Nat.reduceBEq, Nat.reduceMod, Nat.reduceDiv, Int.reduceToNat, reduceCtorEq, Int.reduceLT, Int.reduceLE, Int.reduceGT, Int.reduceGE, Int.reduceAdd, Int.reduceSub, Int.reduceMul, Int.reduceNeg, Int.reduceEq, Int.reduceNe, Int.reduceBNe, Int.reduceBEq, Int.reduceDiv]
      · rw [if_neg h1]
        have h2 : ¬ 65536 < f + n := fun h => h1 (.inr h)
        have e1 : decide (((f + n : Nat) : Int) > 65536) = false := decide_eq_false (by omega)
        rcases Decidable.em (s.length < f + n) with h3 | h3
        · rw [if_pos h3]
          have e3 : decide (((f + n : Nat) : Int) > (s.length : Int)) = true := decide_eq_true (by omega)
          cases l with
          | false =>
            simp only [go_sem, ↓reduceIte, Nat.reduceLT, Nat.reduceLeDiff, Nat.reduceAdd, Nat.reduceSub, Nat.reduceMul, Nat.reduceEqDiff, Nat.reduceBEq, Nat.reduceMod, Nat.reduceDiv, Int.reduceToNat, reduceCtorEq, Int.reduceLT, Int.reduceLE, Int.reduceGT, Int.reduceGE, Int.reduceAdd, Int.reduceSub, Int.reduceMul, Int.reduceNeg, Int.reduceEq, Int.reduceNe, Int.reduceBNe, Int.reduceBEq, Int.reduceDiv, wfn, e1, e3]
            refine finTupD (vs' := [.agg [.bool false, .str [], .ext nilP], .int .i64 (0 : Int), .int .i64 (7 : Int)]) ?_ (fins3 (dull_none _ _) _)
            show resOf _ _ [.cell 4 54, .tmp 5, .tmp 6] = _
            simp only [go_sem, ↓reduceIte, Nat.reduceLT, Nat.reduceLeDiff, Nat.reduceAdd, Nat.reduceSub, Nat.reduceMul, Nat.reduceEqDiff, Nat.reduceBEq, Nat.reduceMod, Nat.reduceDiv, Int.reduceToNat, reduceCtorEq, Int.reduceLT, Int.reduceLE, Int.reduceGT, Int.reduceGE, Int.reduceAdd, Int.reduceSub, Int.reduceMul, Int.reduceNeg, Int.reduceEq, Int.reduceNe, Int.reduceBNe, Int.reduceBEq, Int.reduceDiv]
          | true =>
            have e2 : decide ((d : Int) ≥ 16) = false := decide_eq_false fun h => h1 (.inl ⟨rfl, by omega⟩)
            simp only [go_sem, ↓reduceIte, Nat.reduceLT, Nat.reduceLeDiff, Nat.reduceAdd, Nat.reduceSub, Nat.reduceMul, Nat.reduceEqDiff, Nat.reduceBEq, Nat.reduceMod, Nat.reduceDiv, Int.reduceToNat, reduceCtorEq, Int.reduceLT, Int.reduceLE, Int.reduceGT, Int.reduceGE, Int.reduceAdd, Int.reduceSub, Int.reduceMul, Int.reduceNeg, Int.reduceEq, Int.reduceNe, Int.reduceBNe, Int.reduceBEq, Int.reduceDiv, wfn, e1, e2, e3]
            refine finTupD (vs' := [.agg [.bool false, .str [], .ext nilP], .int .i64 (0 : Int), .int .i64 (7 : Int)]) ?_ (fins3 (dull_none _ _) _)
            show resOf _ _ [.cell 4 54, .tmp 5, .tmp 6] = _
            simp only [go_sem, ↓reduceIte, Nat.reduceLT, Nat.reduceLeDiff, Nat.reduceAdd, Nat.reduceSub, Nat.reduceMul, Nat.reduceEqDiff, Nat.reduceBEq, Nat.reduceMod, Nat.reduceDiv, Int.reduceToNat, reduceCtorEq, Int.reduceLT, Int.reduceLE, Int.reduceGT, Int.reduceGE, Int.reduceAdd, Int.reduceSub, Int.reduceMul, Int.reduceNeg, Int.reduceEq, Int.reduceNe, Int.reduceBNe, Int.reduceBEq, Int.reduceDiv]
        · rw [if_neg h3]
          have e3 : decide (((f + n : Nat) : Int) > (s.length : Int)) = false := decide_eq_false (by omega)
          have hlen : ((s.drop f).take n).length = n := by rw [List.length_take, List.length_drop]; omega
          cases l with
          | false =>
            rw [if_pos rfl]
            have ha := c_item_alone ((s.drop f).take n) (by omega)
            rcases Decidable.em (0 < f) with h4 | h4
            · have e4 : decide ((f : Int) > 0) = true := decide_eq_true (by omega)
              simp only [go_sem, ↓reduceIte, Nat.reduceLT, Nat.reduceLeDiff, Nat.reduceAdd, Nat.reduceSub, Nat.reduceMul, Nat.reduceEqDiff, Nat.reduceBEq, Nat.reduceMod, Nat.reduceDiv, Int.reduceToNat, reduceCtorEq, Int.reduceLT, Int.reduceLE, Int.reduceGT, Int.reduceGE, Int.reduceAdd, Int.reduceSub, Int.reduceMul, Int.reduceNeg, Int.reduceEq, Int.reduceNe, Int.reduceBNe, Int.reduceBEq, Int.reduceDiv, wfn, e1, e3, e4, Int.toNat_natCast, hsub]
              refine ⟨by omega, ?_⟩
              refine ex_call (by exact ha) ?_
              cases hal : aloneB ((s.drop f).take n) with
              | true =>
                rw [if_pos ⟨h4, rfl⟩]
                simp only [go_sem, ↓reduceIte, Nat.reduceLT, Nat.reduceLeDiff, Nat.reduceAdd, Nat.reduceSub, Nat.reduceMul, Nat.reduceEqDiff, Nat.reduceBEq, Nat.reduceMod, Nat.reduceDiv, Int.reduceToNat, reduceCtorEq, Int.reduceLT, Int.reduceLE, Int.reduceGT, Int.reduceGE, Int.reduceAdd, Int.reduceSub, Int.reduceMul, Int.reduceNeg, Int.reduceEq, Int.reduceNe, Int.reduceBNe, Int.reduceBEq, Int.reduceDiv]
                refine finTupD (vs' := [.agg [.bool false, .str [], .ext nilP], .int .i64 (0 : Int), .int .i64 (1 : Int)]) ?_ (fins3 (dull_none _ _) _)
                show resOf _ _ [.cell 4 54, .tmp 5, .tmp 6] = _
                simp only [go_sem, ↓reduceIte, Nat.reduceLT, Nat.reduceLeDiff, Nat.reduceAdd, Nat.reduceSub, Nat.reduceMul, Nat.reduceEqDiff, Nat.reduceBEq, Nat.reduceMod, Nat.reduceDiv, Int.reduceToNat, reduceCtorEq, Int.reduceLT, Int.reduceLE, Int.reduceGT, Int.reduceGE, Int.reduceAdd, Int.reduceSub, Int.reduceMul, Int.reduceNeg, Int.reduceEq, Int.reduceNe, Int.reduceBNe, Int.reduceBEq, Int.reduceDiv]
              | false =>
                rw [if_neg (fun h => by cases h.2)]
                simp only [go_sem, ↓reduceIte, Nat.reduceLT, Nat.reduceLeDiff, Nat.reduceAdd, Nat.reduceSub, Nat.reduceMul, Nat.reduceEqDiff, Nat.reduceBEq, Nat.reduceMod, Nat.reduceDiv, Int.reduceToNat, reduceCtorEq, Int.reduceLT, Int.reduceLE, Int.reduceGT, Int.reduceGE, Int.reduceAdd, Int.reduceSub, Int.reduceMul, Int.reduceNeg, Int.reduceEq, Int.reduceNe, Int.reduceBNe, Int.reduceBEq, Int.reduceDiv, Int.toNat_natCast, hsub]
                refine ⟨by omega, ?_⟩
                refine finTupD (vs' := [.agg [.bool false, .str ((s.drop f).take n), .ext nilP], .int .i64 ((f + n : Nat) : Int), .int .i64 (0 : Int)]) ?_ (fins3 (dull_none _ _) _)
                show resOf _ _ [.cell 4 54, .tmp 5, .tmp 6] = _
                simp only [go_sem, ↓reduceIte, Nat.reduceLT, Nat.reduceLeDiff, Nat.reduceAdd, Nat.reduceSub, Nat.reduceMul, Nat.reduceEqDiff, Nat.reduceBEq, Nat.reduceMod, Nat.reduceDiv, Int.reduceToNat, reduceCtorEq, Int.reduceLT, Int.reduceLE, Int.reduceGT, Int.reduceGE, Int.reduceAdd, Int.reduceSub, Int.reduceMul, Int.reduceNeg, Int.reduceEq, Int.reduceNe, Int.reduceBNe, Int.reduceBEq, Int.reduceDiv]
            · have e4 : decide ((f : Int) > 0) = false := decide_eq_false (by omega)
              rw [if_neg (fun h => h4 h.1)]
              simp only [go_sem, ↓reduceIte, Nat.reduceLT, Nat.reduceLeDiff, Nat.reduceAdd, Nat.reduceSub, Nat.reduceMul, Nat.reduceEqDiff, Nat.reduceBEq, Nat.reduceMod, Nat.reduceDiv, Int.reduceToNat, reduceCtorEq, Int.reduceLT, Int.reduceLE, Int.reduceGT, Int.reduceGE, Int.reduceAdd, Int.reduceSub, Int.reduceMul, Int.reduceNeg, Int.reduceEq, Int.reduceNe, Int.reduceBNe, Int.reduceBEq, Int.reduceDiv, wfn, e1, e3, e4, Int.toNat_natCast, hsub]
              refine ⟨by omega, ?_⟩
              refine finTupD (vs' := [.agg [.bool false, .str ((s.drop f).take n), .ext nilP], .int .i64 ((f + n : Nat) : Int), .int .i64 (0 : Int)]) ?_ (fins3 (dull_none _ _) _)
              show resOf _ _ [.cell 4 54, .tmp 5, .tmp 6] = _
              simp only [go_sem, ↓reduceIte, Nat.reduceLT, Nat.reduceLeDiff, Nat.reduceAdd, Nat.reduceSub, Nat.reduceMul, Nat.reduceEqDiff, Nat.reduceBEq, Nat.reduceMod, Nat.reduceDiv, Int.reduceToNat, reduceCtorEq, Int.reduceLT, Int.reduceLE, Int.reduceGT, Int.reduceGE, Int.reduceAdd, Int.reduceSub, Int.reduceMul, Int.reduceNeg, Int.reduceEq, Int.reduceNe, Int.reduceBNe, Int.reduceBEq, Int.reduceDiv]
          | true =>
            have hf := b3 rfl
            have hd16 : d < 16 := by
              rcases Nat.lt_or_ge d 16 with h | h
              · exact h
              · exact absurd (.inl ⟨rfl, h⟩) h1
            have e2 : decide ((d : Int) ≥ 16) = false := decide_eq_false (by omega)
            rw [if_neg (by simp)]
            obtain ⟨body, hbody⟩ : ∃ body, body = (s.drop f).take n := ⟨_, rfl⟩
            rw [← hbody] at hlen ⊢
            simp only [go_sem, ↓reduceIte, Nat.reduceLT, Nat.reduceLeDiff, Nat.reduceAdd, Nat.reduceSub, Nat.reduceMul, Nat.reduceEqDiff, Nat.reduceBEq, Nat.reduceMod, Nat.reduceDiv, Int.reduceToNat, reduceCtorEq, Int.reduceLT, Int.reduceLE, Int.reduceGT, Int.reduceGE, Int.reduceAdd, Int.reduceSub, Int.reduceMul, Int.reduceNeg, Int.reduceEq, Int.reduceNe, Int.reduceBNe, Int.reduceBEq, Int.reduceDiv, wfn, e1, e2, e3, Int.toNat_natCast, hsub]
            refine ⟨by omega, ?_⟩
            rw [← hbody]
            refine ex_iter [1, 4, 8, 9] (fun q : List ItemD × List UInt8 => ⟨[(1, .int .i64 d), (4, .var 4 0), (8, .int .i64 (f + n : Nat)), (9, .str q.2)], [(4, [.bool true, .str [], .own false 3 (q.1.map ItemD.av)])]⟩)
              (fun q => q.1.length + q.2.length ≤ n ∧ itemsP (d + 1) body = (itemsP (d + 1) q.2).map (q.1 ++ ·)) (fun q => q.2.length) ([], body) ?_ ?_ ?_
            · simp only [ASt.keep, consIf, keepL, keepV, AV.isBot, List.contains_cons, List.contains_nil, Nat.reduceBEq, Bool.or_false, Bool.false_or, Bool.or_true, Bool.true_or, beq_self_eq_true, Bool.false_eq_true, ↓reduceIte, if_false, if_true]
              rfl
            · refine ⟨by simp only [List.length_nil]; omega, ?_⟩
              cases itemsP (d + 1) body <;> rfl
            · rintro r ⟨xs, rest⟩ ⟨hq1, hq2⟩ next
              simp only at hq1 hq2
              simp only [go_sem, ↓reduceIte, Nat.reduceLT, Nat.reduceLeDiff, Nat.reduceAdd, Nat.reduceSub, Nat.reduceMul, Nat.reduceEqDiff, Nat.reduceBEq, Nat.reduceMod, Nat.reduceDiv, Int.reduceToNat, reduceCtorEq, Int.reduceLT, Int.reduceLE, Int.reduceGT, Int.reduceGE, Int.reduceAdd, Int.reduceSub, Int.reduceMul, Int.reduceNeg, Int.reduceEq, Int.reduceNe, Int.reduceBNe, Int.reduceBEq, Int.reduceDiv]
              refine ex_br (fun hc => ?_) (fun hc => ?_)
              · have hne : rest ≠ [] := by rintro rfl; simp at hc
                have hone := items_one (d := d + 1) hne
                have hcall := ih rest.length (by omega) rest (d + 1) (Nat.le_refl _) (by omega) (by omega)
                have hp := one_parse (d + 1) rest
                simp only [go_sem, ↓reduceIte, Nat.reduceLT, Nat.reduceLeDiff, Nat.reduceAdd, Nat.reduceSub, Nat.reduceMul, Nat.reduceEqDiff, Nat.reduceBEq, Nat.reduceMod, Nat.reduceDiv, Int.reduceToNat, reduceCtorEq, Int.reduceLT, Int.reduceLE, Int.reduceGT, Int.reduceGE, Int.reduceAdd, Int.reduceSub, Int.reduceMul, Int.reduceNeg, Int.reduceEq, Int.reduceNe, Int.reduceBNe, Int.reduceBEq, Int.reduceDiv, wd]
                cases ho : oneR (d + 1) rest with
                | error e =>
                  rw [ho] at hcall hone hp
                  have he0 : ((e : Int) != 0) = true := by
                    unfold oneR at ho
                    cases hh2 : hdOf rest with
                    | error e2 =>
                      rw [hh2] at ho
                      cases ho
                      rcases hd_err hh2 with rfl | rfl <;> rfl
                    | ok r2 =>
                      obtain ⟨l2, f2, n2⟩ := r2
                      rw [hh2] at ho
                      simp only at ho
                      repeat' (split at ho)
                      all_goals first | (cases ho; rfl) | (cases ho; done)
                  have hnone : itemsP (d + 1) body = none := by rw [hq2, hone]; rfl
                  rw [hnone]
                  unfold resP at hcall
                  refine ex_call (by exact hcall) ?_
                  simp only [go_sem, ↓reduceIte, Nat.reduceLT, Nat.reduceLeDiff, Nat.reduceAdd, Nat.reduceSub, Nat.reduceMul, Nat.reduceEqDiff, Nat.reduceBEq, Nat.reduceMod, Nat.reduceDiv, Int.reduceToNat, reduceCtorEq, Int.reduceLT, Int.reduceLE, Int.reduceGT, Int.reduceGE, Int.reduceAdd, Int.reduceSub, Int.reduceMul, Int.reduceNeg, Int.reduceEq, Int.reduceNe, Int.reduceBNe, Int.reduceBEq, Int.reduceDiv, he0]
                  refine finTupD (vs' := [.agg [.bool false, .str [], .ext nilP], .int .i64 (0 : Int), .int .i64 (1 : Int)]) ?_ (fins3 (dull_none _ _) _)
                  show resOf _ _ [.cell 4 54, .tmp 5, .tmp 6] = _
                  simp only [go_sem, ↓reduceIte, Nat.reduceLT, Nat.reduceLeDiff, Nat.reduceAdd, Nat.reduceSub, Nat.reduceMul, Nat.reduceEqDiff, Nat.reduceBEq, Nat.reduceMod, Nat.reduceDiv, Int.reduceToNat, reduceCtorEq, Int.reduceLT, Int.reduceLE, Int.reduceGT, Int.reduceGE, Int.reduceAdd, Int.reduceSub, Int.reduceMul, Int.reduceNeg, Int.reduceEq, Int.reduceNe, Int.reduceBNe, Int.reduceBEq, Int.reduceDiv]
                | ok r2 =>
                  obtain ⟨x, k⟩ := r2
                  rw [ho] at hcall hone hp
                  have hp : parse (d + 1) rest = .ok (x, k) := hp
                  have hpo := parse_ok hp
                  have hp1 := hpo.pos
                  have hp2 := hpo.le
                  unfold resP at hcall
                  refine ex_call (by exact hcall) ?_
                  simp only [go_sem, ↓reduceIte, Nat.reduceLT, Nat.reduceLeDiff, Nat.reduceAdd, Nat.reduceSub, Nat.reduceMul, Nat.reduceEqDiff, Nat.reduceBEq, Nat.reduceMod, Nat.reduceDiv, Int.reduceToNat, reduceCtorEq, Int.reduceLT, Int.reduceLE, Int.reduceGT, Int.reduceGE, Int.reduceAdd, Int.reduceSub, Int.reduceMul, Int.reduceNeg, Int.reduceEq, Int.reduceNe, Int.reduceBNe, Int.reduceBEq, Int.reduceDiv]
                  refine ex_draw [9] [] (.quiet 0 (.quiet 1 (.quiet 2 (.quiet 5 (.quiet 6 (.quiet 7 (.one 3 (.one 4 (.quiet 8 (.unlock (.one 9 (.quiet 10 (.fin))))))))))))) (by kernel_rfl) ?_
                  simp only [go_sem, ↓reduceIte, Nat.reduceLT, Nat.reduceLeDiff, Nat.reduceAdd, Nat.reduceSub, Nat.reduceMul, Nat.reduceEqDiff, Nat.reduceBEq, Nat.reduceMod, Nat.reduceDiv, Int.reduceToNat, reduceCtorEq, Int.reduceLT, Int.reduceLE, Int.reduceGT, Int.reduceGE, Int.reduceAdd, Int.reduceSub, Int.reduceMul, Int.reduceNeg, Int.reduceEq, Int.reduceNe, Int.reduceBNe, Int.reduceBEq, Int.reduceDiv, List.length_map, Int.toNat_natCast]
                  repeat with_reducible refine And.intro (by first | omega | (simp only [List.length_cons, List.length_append, List.length_nil, List.length_map, List.length_take, List.length_drop, List.length_set]; omega)) ?_
                  refine next (xs ++ [x], rest.drop k) _ ?_ ?_ ?_
                  · refine ⟨by simp only [List.length_append, List.length_singleton, List.length_drop]; omega, ?_⟩
                    simp only
                    rw [hq2, hone]
                    simp only [Option.map_map]
                    congr 1
                    funext ys
                    simp
                  · simp only [List.length_drop]; omega
                  · simp only [ASt.keep, consIf, keepL, keepV, AV.isBot, List.contains_cons, List.contains_nil, Nat.reduceBEq, Bool.or_false, Bool.false_or, Bool.or_true, Bool.true_or, beq_self_eq_true, Bool.false_eq_true, ↓reduceIte, if_false, if_true]
                    simp only [List.map_append, List.map_cons, List.map_nil, ItemD.av_eq, ItemD.cells]
                    rw [List.take_of_length_le (by simp)]
              · have hnil : rest = [] := by simpa using hc
                subst hnil
                have hsome : itemsP (d + 1) body = some xs := by rw [hq2, itemsP_nil]; simp
                rw [hsome]
                simp only [go_sem, ↓reduceIte, Nat.reduceLT, Nat.reduceLeDiff, Nat.reduceAdd, Nat.reduceSub, Nat.reduceMul, Nat.reduceEqDiff, Nat.reduceBEq, Nat.reduceMod, Nat.reduceDiv, Int.reduceToNat, reduceCtorEq, Int.reduceLT, Int.reduceLE, Int.reduceGT, Int.reduceGE, Int.reduceAdd, Int.reduceSub, Int.reduceMul, Int.reduceNeg, Int.reduceEq, Int.reduceNe, Int.reduceBNe, Int.reduceBEq, Int.reduceDiv]
                refine finTupD (vs' := [.agg [.bool true, .str [], .sl true 3 (xs.map ItemD.av)], .int .i64 ((f + n : Nat) : Int), .int .i64 (0 : Int)]) ?_ (fins3 (dull_item _ _ _ _) _)
                show resOf _ _ [.cell 4 54, .tmp 5, .tmp 6] = _
                simp only [go_sem, ↓reduceIte, Nat.reduceLT, Nat.reduceLeDiff, Nat.reduceAdd, Nat.reduceSub, Nat.reduceMul, Nat.reduceEqDiff, Nat.reduceBEq, Nat.reduceMod, Nat.reduceDiv, Int.reduceToNat, reduceCtorEq, Int.reduceLT, Int.reduceLE, Int.reduceGT, Int.reduceGE, Int.reduceAdd, Int.reduceSub, Int.reduceMul, Int.reduceNeg, Int.reduceEq, Int.reduceNe, Int.reduceBNe, Int.reduceBEq, Int.reduceDiv]
theorem c_item_Take (s : List UInt8) (hs : s.length ≤ 16777216) : Contract Try.prog 49 [.str s] (resP (parse 0 s)) := by
  have h := c_one s.length s 0 (Nat.le_refl _) hs (by omega)
  rw [one_zero] at h
  cases hp : parse 0 s with
  | error e =>
    rw [hp] at h
    unfold resP at h
    refine contract_of (C := cf 10 [0, 2, 3, 4] (fun _ => [])) (cf_ok _ _ _) (fn := Try.f49) Try.func49 (by kernel_rfl) rfl (by kernel_rfl) (by simp [cf]) (plain1 (.str _)) (by decide) (cellsOk (by kernel_rfl)) ?_
    simp only [go_sem, ↓reduceIte, Nat.reduceLT, Nat.reduceLeDiff, Nat.reduceAdd, Nat.reduceSub, Nat.reduceMul, Nat.reduceEqDiff, Nat.reduceBEq, Nat.reduceMod, Nat.reduceDiv, Int.reduceToNat, reduceCtorEq, Int.reduceLT, Int.reduceLE, Int.reduceGT, Int.reduceGE, Int.reduceAdd, Int.reduceSub, Int.reduceMul, Int.reduceNeg, Int.reduceEq, Int.reduceNe, Int.reduceBNe, Int.reduceBEq, Int.reduceDiv]
    refine ex_call (by exact h) ?_
    simp only [go_sem, ↓reduceIte, Nat.reduceLT, Nat.reduceLeDiff, Nat.reduceAdd, Nat.reduceSub, Nat.reduceMul, Nat.reduceEqDiff, Nat.reduceBEq, Nat.reduceMod, Nat.reduceDiv, Int.reduceToNat, reduceCtorEq, Int.reduceLT, Int.reduceLE, Int.reduceGT, Int.reduceGE, Int.reduceAdd, Int.reduceSub, Int.reduceMul, Int.reduceNeg, Int.reduceEq, Int.reduceNe, Int.reduceBNe, Int.reduceBEq, Int.reduceDiv]
    refine finTup ?_
    show resOf _ _ [.cell 2 54, .tmp 3, .tmp 4] = _
    simp only [go_sem, ↓reduceIte, Nat.reduceLT, Nat.reduceLeDiff, Nat.reduceAdd, Nat.reduceSub, Nat.reduceMul, Nat.reduceEqDiff, Nat.reduceBEq, Nat.reduceMod, Nat.reduceDiv, Int.reduceToNat, reduceCtorEq, Int.reduceLT, Int.reduceLE, Int.reduceGT, Int.reduceGE, Int.reduceAdd, Int.reduceSub, Int.reduceMul, Int.reduceNeg, Int.reduceEq, Int.reduceNe, Int.reduceBNe, Int.reduceBEq, Int.reduceDiv]
  | ok r =>
    obtain ⟨it, k⟩ := r
    rw [hp] at h
    unfold resP at h
    refine contract_of (C := cf 10 [0, 2, 3, 4] (fun _ => [])) (cf_ok _ _ _) (fn := Try.f49) Try.func49 (by kernel_rfl) rfl (by kernel_rfl) (by simp [cf]) (plain1 (.str _)) (by decide) (cellsOk (by kernel_rfl)) ?_
    simp only [go_sem, ↓reduceIte, Nat.reduceLT, Nat.reduceLeDiff, Nat.reduceAdd, Nat.reduceSub, Nat.reduceMul, Nat.reduceEqDiff, Nat.reduceBEq, Nat.reduceMod, Nat.reduceDiv, Int.reduceToNat, reduceCtorEq, Int.reduceLT, Int.reduceLE, Int.reduceGT, Int.reduceGE, Int.reduceAdd, Int.reduceSub, Int.reduceMul, Int.reduceNeg, Int.reduceEq, Int.reduceNe, Int.reduceBNe, Int.reduceBEq, Int.reduceDiv]
    refine ex_call (by exact h) ?_
    simp only [go_sem, ↓reduceIte, Nat.reduceLT, Nat.reduceLeDiff, Nat.reduceAdd, Nat.reduceSub, Nat.reduceMul, Nat.reduceEqDiff, Nat.reduceBEq, Nat.reduceMod, Nat.reduceDiv, Int.reduceToNat, reduceCtorEq, Int.reduceLT, Int.reduceLE, Int.reduceGT, Int.reduceGE, Int.reduceAdd, Int.reduceSub, Int.reduceMul, Int.reduceNeg, Int.reduceEq, Int.reduceNe, Int.reduceBNe, Int.reduceBEq, Int.reduceDiv]
    refine finTup ?_
    show resOf _ _ [.cell 2 54, .tmp 3, .tmp 4] = _
    simp only [go_sem, ↓reduceIte, Nat.reduceLT, Nat.reduceLeDiff, Nat.reduceAdd, Nat.reduceSub, Nat.reduceMul, Nat.reduceEqDiff, Nat.reduceBEq, Nat.reduceMod, Nat.reduceDiv, Int.reduceToNat, reduceCtorEq, Int.reduceLT, Int.reduceLE, Int.reduceGT, Int.reduceGE, Int.reduceAdd, Int.reduceSub, Int.reduceMul, Int.reduceNeg, Int.reduceEq, Int.reduceNe, Int.reduceBNe, Int.reduceBEq, Int.reduceDiv]
/-- The item that all of the bytes are. -/
def parseAll (s : List UInt8) : Except Nat ItemD :=
  match parse 0 s with
  | .error e => .error e
  | .ok (it, k) => if k < s.length then .error 1 else .ok it
def resA : Except Nat ItemD → AV
  | .error e => .tup [.agg [.bool false, .str [], .sl false 3 []], .int .i64 (e : Int)]
  | .ok it => .tup [.agg [.bool it.list, .str it.text, .sl false 3 (it.items.map ItemD.av)], .int .i64 (0 : Int)]
theorem parse_err {s : List UInt8} {e : Nat} (h : parse 0 s = .error e) : e = 7 ∨ e = 1 := by
  rw [← one_zero] at h
  unfold oneR at h
  cases hh : hdOf s with
  | error e2 => rw [hh] at h; cases h; exact hd_err hh
  | ok r2 =>
    obtain ⟨l2, f2, n2⟩ := r2
    rw [hh] at h
    simp only at h
    repeat' (split at h)
    all_goals first | (cases h; omega) | (cases h; done)
theorem c_item_Parse (s : List UInt8) (hs : s.length ≤ 16777216) : Contract Try.prog 52 [.str s] (resA (parseAll s)) := by
  have h := c_item_Take s hs
  unfold parseAll
  cases hp : parse 0 s with
  | error e =>
    rw [hp] at h
    unfold resP at h
    have e0 : ((e : Int) != 0) = true := by rcases parse_err hp with rfl | rfl <;> rfl
    refine contract_of (C := cf 25 [0, 2, 3, 4, 5, 6, 13, 18] (fun _ => [])) (cf_ok _ _ _) (fn := Try.f52) Try.func52 (by kernel_rfl) rfl (by kernel_rfl) (by simp [cf]) (plain1 (.str _)) (by decide) (cellsOk (by kernel_rfl)) ?_
    simp only [go_sem, ↓reduceIte, Nat.reduceLT, Nat.reduceLeDiff, Nat.reduceAdd, Nat.reduceSub, Nat.reduceMul, Nat.reduceEqDiff, Nat.reduceBEq, Nat.reduceMod, Nat.reduceDiv, Int.reduceToNat, reduceCtorEq, Int.reduceLT, Int.reduceLE, Int.reduceGT, Int.reduceGE, Int.reduceAdd, Int.reduceSub, Int.reduceMul, Int.reduceNeg, Int.reduceEq, Int.reduceNe, Int.reduceBNe, Int.reduceBEq, Int.reduceDiv]
    refine ex_call (by exact h) ?_
    simp only [go_sem, ↓reduceIte, Nat.reduceLT, Nat.reduceLeDiff, Nat.reduceAdd, Nat.reduceSub, Nat.reduceMul, Nat.reduceEqDiff, Nat.reduceBEq, Nat.reduceMod, Nat.reduceDiv, Int.reduceToNat, reduceCtorEq, Int.reduceLT, Int.reduceLE, Int.reduceGT, Int.reduceGE, Int.reduceAdd, Int.reduceSub, Int.reduceMul, Int.reduceNeg, Int.reduceEq, Int.reduceNe, Int.reduceBNe, Int.reduceBEq, Int.reduceDiv, e0]
    refine finTupD (vs' := [.agg [.bool false, .str [], .ext nilP], .int .i64 (e : Int)]) ?_ (fins3 (dull_none _ _) _)
    show resOf _ _ [.cell 2 54, .tmp 3] = _
    simp only [go_sem, ↓reduceIte, Nat.reduceLT, Nat.reduceLeDiff, Nat.reduceAdd, Nat.reduceSub, Nat.reduceMul, Nat.reduceEqDiff, Nat.reduceBEq, Nat.reduceMod, Nat.reduceDiv, Int.reduceToNat, reduceCtorEq, Int.reduceLT, Int.reduceLE, Int.reduceGT, Int.reduceGE, Int.reduceAdd, Int.reduceSub, Int.reduceMul, Int.reduceNeg, Int.reduceEq, Int.reduceNe, Int.reduceBNe, Int.reduceBEq, Int.reduceDiv]
  | ok r =>
    obtain ⟨it, k⟩ := r
    rw [hp] at h
    unfold resP at h
    simp only
    rcases Decidable.em (k < s.length) with hk | hk
    · rw [if_pos hk]
      have e1 : decide ((k : Int) < (s.length : Int)) = true := decide_eq_true (by omega)
      refine contract_of (C := cf 25 [0, 2, 3, 4, 5, 6, 13, 18] (fun _ => [])) (cf_ok _ _ _) (fn := Try.f52) Try.func52 (by kernel_rfl) rfl (by kernel_rfl) (by simp [cf]) (plain1 (.str _)) (by decide) (cellsOk (by kernel_rfl)) ?_
      simp only [go_sem, ↓reduceIte, Nat.reduceLT, Nat.reduceLeDiff, Nat.reduceAdd, Nat.reduceSub, Nat.reduceMul, Nat.reduceEqDiff, Nat.reduceBEq, Nat.reduceMod, Nat.reduceDiv, Int.reduceToNat, reduceCtorEq, Int.reduceLT, Int.reduceLE, Int.reduceGT, Int.reduceGE, Int.reduceAdd, Int.reduceSub, Int.reduceMul, Int.reduceNeg, Int.reduceEq, Int.reduceNe, Int.reduceBNe, Int.reduceBEq, Int.reduceDiv]
      refine ex_call (by exact h) ?_
      simp only [go_sem, ↓reduceIte, Nat.reduceLT, Nat.reduceLeDiff, Nat.reduceAdd, Nat.reduceSub, Nat.reduceMul, Nat.reduceEqDiff, Nat.reduceBEq, Nat.reduceMod, Nat.reduceDiv, Int.reduceToNat, reduceCtorEq, Int.reduceLT, Int.reduceLE, Int.reduceGT, Int.reduceGE, Int.reduceAdd, Int.reduceSub, Int.reduceMul, Int.reduceNeg, Int.reduceEq, Int.reduceNe, Int.reduceBNe, Int.reduceBEq, Int.reduceDiv, e1]
      refine finTupD (vs' := [.agg [.bool false, .str [], .ext nilP], .int .i64 (1 : Int)]) ?_ (fins3 (dull_none _ _) _)
      show resOf _ _ [.cell 2 54, .tmp 3] = _
      simp only [go_sem, ↓reduceIte, Nat.reduceLT, Nat.reduceLeDiff, Nat.reduceAdd, Nat.reduceSub, Nat.reduceMul, Nat.reduceEqDiff, Nat.reduceBEq, Nat.reduceMod, Nat.reduceDiv, Int.reduceToNat, reduceCtorEq, Int.reduceLT, Int.reduceLE, Int.reduceGT, Int.reduceGE, Int.reduceAdd, Int.reduceSub, Int.reduceMul, Int.reduceNeg, Int.reduceEq, Int.reduceNe, Int.reduceBNe, Int.reduceBEq, Int.reduceDiv]
    · rw [if_neg hk]
      have e1 : decide ((k : Int) < (s.length : Int)) = false := decide_eq_false (by omega)
      refine contract_of (C := cf 25 [0, 2, 3, 4, 5, 6, 13, 18] (fun _ => [])) (cf_ok _ _ _) (fn := Try.f52) Try.func52 (by kernel_rfl) rfl (by kernel_rfl) (by simp [cf]) (plain1 (.str _)) (by decide) (cellsOk (by kernel_rfl)) ?_
      simp only [go_sem, ↓reduceIte, Nat.reduceLT, Nat.reduceLeDiff, Nat.reduceAdd, Nat.reduceSub, Nat.reduceMul, Nat.reduceEqDiff, Nat.reduceBEq, Nat.reduceMod, Nat.reduceDiv, Int.reduceToNat, reduceCtorEq, Int.reduceLT, Int.reduceLE, Int.reduceGT, Int.reduceGE, Int.reduceAdd, Int.reduceSub, Int.reduceMul, Int.reduceNeg, Int.reduceEq, Int.reduceNe, Int.reduceBNe, Int.reduceBEq, Int.reduceDiv]
      refine ex_call (by exact h) ?_
      simp only [go_sem, ↓reduceIte, Nat.reduceLT, Nat.reduceLeDiff, Nat.reduceAdd, Nat.reduceSub, Nat.reduceMul, Nat.reduceEqDiff, Nat.reduceBEq, Nat.reduceMod, Nat.reduceDiv, Int.reduceToNat, reduceCtorEq, Int.reduceLT, Int.reduceLE, Int.reduceGT, Int.reduceGE, Int.reduceAdd, Int.reduceSub, Int.reduceMul, Int.reduceNeg, Int.reduceEq, Int.reduceNe, Int.reduceBNe, Int.reduceBEq, Int.reduceDiv, e1]
      refine finTup ?_
      show resOf _ _ [.cell 2 54, .tmp 3] = _
      simp only [go_sem, ↓reduceIte, Nat.reduceLT, Nat.reduceLeDiff, Nat.reduceAdd, Nat.reduceSub, Nat.reduceMul, Nat.reduceEqDiff, Nat.reduceBEq, Nat.reduceMod, Nat.reduceDiv, Int.reduceToNat, reduceCtorEq, Int.reduceLT, Int.reduceLE, Int.reduceGT, Int.reduceGE, Int.reduceAdd, Int.reduceSub, Int.reduceMul, Int.reduceNeg, Int.reduceEq, Int.reduceNe, Int.reduceBNe, Int.reduceBEq, Int.reduceDiv]
end Go.Proofs.Ytjfnmlheehbojaa.VA
end
section
/- Items out of bytes: the page's own. -/
namespace Go.Proofs.Ytjfnmlheehbojaa.VA
set_option maxRecDepth 10000
set_option linter.unusedSimpArgs false
set_option linter.unusedVariables false
set_option maxHeartbeats 16000000

def bodyR (d : Nat) (s : List UInt8) (l : Bool) (f n : Nat) : Except Nat (ItemD × Nat) :=
  if f + n > 65536 then .error 1
  else if s.length < f + n then .error 7
  else if l = false then (if 0 < f ∧ aloneB ((s.drop f).take n) = true then .error 1 else .ok (.mk false ((s.drop f).take n) [], f + n))
  else if 16 ≤ d then .error 1
  else match itemsP (d + 1) ((s.drop f).take n) with
    | some xs => .ok (.mk true [] xs, f + n)
    | none => .error 1
theorem parse_body {d : Nat} {s : List UInt8} {l : Bool} {f n : Nat} (hh : hdOf s = .ok (l, f, n)) : parse d s = bodyR d s l f n := by
  obtain ⟨b1, b2, b3⟩ := hd_bounds hh
  rw [parse, hh]
  unfold bodyR
  simp only
  split
  · rfl
  · split
    · rfl
    · split
      · rfl
      · split
        · rfl
        · rename_i h1 h2 h3 h4
          have hl : l = true := by cases l <;> simp_all
          have := b3 hl
          rw [dif_pos (by rw [List.length_take, List.length_drop]; omega)]
          cases itemsP (d + 1) ((s.drop f).take n) <;> rfl
theorem parse_errD {d : Nat} {s : List UInt8} {e : Nat} (h : parse d s = .error e) : e = 7 ∨ e = 1 := by
  cases hh : hdOf s with
  | error e2 => rw [parse, hh] at h; cases h; exact hd_err hh
  | ok r2 =>
    obtain ⟨l2, f2, n2⟩ := r2
    rw [parse_body hh] at h
    unfold bodyR at h
    repeat' (split at h)
    all_goals first | (cases h; omega) | (cases h; done)
theorem numOf_take_le (t : List UInt8) {i k : Nat} (h : i ≤ k) : numOf (t.take i) ≤ numOf (t.take k) := by
  have e : t.take k = t.take i ++ (t.drop i).take (k - i) := by
    rw [← List.take_add]; congr 1; omega
  rw [e, numOf_append]
  have : 0 < 256 ^ ((t.drop i).take (k - i)).length := Nat.pow_pos (by decide)
  have := Nat.le_mul_of_pos_right (numOf (t.take i)) this
  omega
theorem c_take (N : Nat) : ∀ (s : List UInt8) (d : Nat), s.length ≤ N → s.length ≤ 16777216 → d ≤ 16 → Contract Try.prog 62 [.str s, .int .i64 d] (resP (parse d s)) := by
  induction N using Nat.strongRecOn with
  | _ N ih =>
    intro s d hN hs hd
    have wd : IntKind.i64.wrap ((d : Int) + 1) = ((d + 1 : Nat) : Int) := wi64_nat d (by omega)
    cases s with
    | nil =>
      have hp : parse d [] = .error 7 := by rw [parse]; rfl
      rw [hp]
      refine contract_of (C := cf 139 [0, 1, 4, 5, 6, 7, 8, 9, 10, 11, 12, 13, 14, 15, 16, 17, 18, 22, 28, 34, 40, 47, 51, 55, 67, 70, 77, 84, 93, 100, 109, 114, 124] (fun _ => [])) (cf_ok _ _ _) (fn := Try.f62) Try.func62 (by kernel_rfl) rfl (by kernel_rfl) (by simp [cf]) (plain2 (.str _) (.int _ _)) (by decide) (cellsOk (by kernel_rfl)) ?_
      simp only [go_sem, ↓reduceIte, Nat.reduceLT, Nat.reduceLeDiff, Nat.reduceAdd, Nat.reduceSub, Nat.reduceMul, Nat.reduceEqDiff, Nat.reduceBEq, Nat.reduceMod, Nat.reduceDiv, Int.reduceToNat, reduceCtorEq, Int.reduceLT, Int.reduceLE, Int.reduceGT, Int.reduceGE, Int.reduceAdd, Int.reduceSub, Int.reduceMul, Int.reduceNeg, Int.reduceEq, Int.reduceNe, Int.reduceBNe, Int.reduceBEq, Int.reduceDiv, Int.cast_ofNat_Int]
      refine finTupD (vs' := [.agg [.bool false, .str [], .ext nilP], .int .i64 (0 : Int), .int .i64 (7 : Int)]) ?_ (fins3 (dull_none _ _) _)
      show resOf _ _ [.cell 4 54, .tmp 5, .tmp 6] = _
      simp only [go_sem, ↓reduceIte, Nat.reduceLT, Nat.reduceLeDiff, Nat.reduceAdd, Nat.reduceSub, Nat.reduceMul, Nat.reduceEqDiff, Nat.reduceBEq, Nat.reduceMod, Nat.reduceDiv, Int.reduceToNat, reduceCtorEq, Int.reduceLT, Int.reduceLE, Int.reduceGT, Int.reduceGE, Int.reduceAdd, Int.reduceSub, Int.reduceMul, Int.reduceNeg, Int.reduceEq, Int.reduceNe, Int.reduceBNe, Int.reduceBEq, Int.reduceDiv]
    | cons b t =>
      rw [List.length_cons] at hN hs
      have hb : b.toNat < 256 := b.toNat_lt
      have wb : IntKind.i64.wrap (b.toNat : Int) = (b.toNat : Int) := wi64n _ (by omega)
      have hpos : (0 : Int) < ((t.length + 1 : Nat) : Int) := by omega
      have e0 : (((t.length + 1 : Nat) : Int) == 0) = false := by simpa using (by omega : ¬ ((t.length + 1 : Nat) : Int) = 0)
      rcases Decidable.em (b.toNat < 128) with h1 | h1
      · have hh : hdOf (b :: t) = .ok (false, 0, 1) := by rw [hd_cons, if_pos h1]
        have hp : parse d (b :: t) = .ok (.mk false [b] [], 1) := by
          rw [parse_body hh]
          unfold bodyR
          rw [if_neg (by omega), if_neg (by simp), if_pos rfl, if_neg (by omega)]
          rfl
        rw [hp]
        have e1 : decide ((b.toNat : Int) < 128) = true := decide_eq_true (by omega)
        have hle : (1 : Int) ≤ ((t.length + 1 : Nat) : Int) := by omega
        refine contract_of (C := cf 139 [0, 1, 4, 5, 6, 7, 8, 9, 10, 11, 12, 13, 14, 15, 16, 17, 18, 22, 28, 34, 40, 47, 51, 55, 67, 70, 77, 84, 93, 100, 109, 114, 124] (fun _ => [])) (cf_ok _ _ _) (fn := Try.f62) Try.func62 (by kernel_rfl) rfl (by kernel_rfl) (by simp [cf]) (plain2 (.str _) (.int _ _)) (by decide) (cellsOk (by kernel_rfl)) ?_
        simp only [go_sem, ↓reduceIte, Nat.reduceLT, Nat.reduceLeDiff, Nat.reduceAdd, Nat.reduceSub, Nat.reduceMul, Nat.reduceEqDiff, Nat.reduceBEq, Nat.reduceMod, Nat.reduceDiv, Int.reduceToNat, reduceCtorEq, Int.reduceLT, Int.reduceLE, Int.reduceGT, Int.reduceGE, Int.reduceAdd, Int.reduceSub, Int.reduceMul, Int.reduceNeg, Int.reduceEq, Int.reduceNe, Int.reduceBNe, Int.reduceBEq, Int.reduceDiv, e0, e1, wb, hpos, hle, Int.cast_ofNat_Int]
        refine finTupD (vs' := [.agg [.bool false, .str [b], .ext nilP], .int .i64 (1 : Int), .int .i64 (0 : Int)]) ?_ (fins3 (dull_none _ _) _)
        show resOf _ _ [.cell 4 54, .tmp 5, .tmp 6] = _
        simp only [go_sem, ↓reduceIte, Nat.reduceLT, Nat.reduceLeDiff, Nat.reduceAdd, Nat.reduceSub, Nat.reduceMul, Nat.reduceEqDiff, Nat.reduceBEq, Nat.reduceMod, Nat.reduceDiv, Int.reduceToNat, reduceCtorEq, Int.reduceLT, Int.reduceLE, Int.reduceGT, Int.reduceGE, Int.reduceAdd, Int.reduceSub, Int.reduceMul, Int.reduceNeg, Int.reduceEq, Int.reduceNe, Int.reduceBNe, Int.reduceBEq, Int.reduceDiv]
      · have e1 : decide ((b.toNat : Int) < 128) = false := decide_eq_false (by omega)
        have hcons : hdOf (b :: t) = hdRest (decide (192 ≤ b.toNat)) (hdLen b) t := by rw [hd_cons, if_neg h1]
        obtain ⟨l, hl⟩ : ∃ l, decide (192 ≤ b.toNat) = l := ⟨_, rfl⟩
        obtain ⟨m, hm⟩ : ∃ m, hdLen b = m := ⟨_, rfl⟩
        rw [hl, hm] at hcons
        have hm64 : m < 64 := by rw [← hm]; unfold hdLen; split <;> omega
        have e2 : decide ((b.toNat : Int) ≥ 192) = l := by rw [← hl]; exact decide_congr (by omega)
        have w64 : IntKind.i64.wrap ((b.toNat : Int) - 64) = (b.toNat : Int) - 64 := wi64 (by omega) (by omega)
        have wl : l = true → IntKind.i64.wrap ((b.toNat : Int) - 64 - 128) = (m : Int) := fun e => by
          rw [wi64 (by omega) (by omega)]
          rw [e] at hl
          have : 192 ≤ b.toNat := of_decide_eq_true hl
          rw [← hm]; unfold hdLen; rw [if_pos this]; omega
        have wt : l = false → IntKind.i64.wrap ((b.toNat : Int) - 128) = (m : Int) := fun e => by
          rw [wi64 (by omega) (by omega)]
          rw [e] at hl
          have : ¬ 192 ≤ b.toNat := of_decide_eq_false hl
          rw [← hm]; unfold hdLen; rw [if_neg this]; omega
        refine contract_of (C := cf 139 [0, 1, 4, 5, 6, 7, 8, 9, 10, 11, 12, 13, 14, 15, 16, 17, 18, 22, 28, 34, 40, 47, 51, 55, 67, 70, 77, 84, 93, 100, 109, 114, 124] (fun _ => [])) (cf_ok _ _ _) (fn := Try.f62) Try.func62 (by kernel_rfl) rfl (by kernel_rfl) (by simp [cf]) (plain2 (.str _) (.int _ _)) (by decide) (cellsOk (by kernel_rfl)) ?_
        simp only [go_sem, ↓reduceIte, Nat.reduceLT, Nat.reduceLeDiff, Nat.reduceAdd, Nat.reduceSub, Nat.reduceMul, Nat.reduceEqDiff, Nat.reduceBEq, Nat.reduceMod, Nat.reduceDiv, Int.reduceToNat, reduceCtorEq, Int.reduceLT, Int.reduceLE, Int.reduceGT, Int.reduceGE, Int.reduceAdd, Int.reduceSub, Int.reduceMul, Int.reduceNeg, Int.reduceEq, Int.reduceNe, Int.reduceBNe, Int.reduceBEq, Int.reduceDiv, e0, e1, e2, wb, hpos]
        refine ex_cut (fun x : Int => ⟨[(0, .str (b :: t)), (1, .int .i64 d), (4, .var 4 0), (5, .int .i64 (0 : Int)), (6, .int .i64 (0 : Int)), (7, .var 7 0), (8, .int .i64 x), (9, .bool l), (22, .bool false), (28, .bool false), (34, .bool l)], [(4, [.bool false, .str [], .own false 3 []]), (7, [.bool false, .str [], .ext nilP])]⟩) (fun x => IntKind.i64.wrap (x - 128) = (m : Int)) (fun x hx => ?_) (fun κ hκ => ?_)
        case refine_2 =>
          cases l with
          | true =>
            simp only [go_sem, ↓reduceIte, Nat.reduceLT, Nat.reduceLeDiff, Nat.reduceAdd, Nat.reduceSub, Nat.reduceMul, Nat.reduceEqDiff, Nat.reduceBEq, Nat.reduceMod, Nat.reduceDiv, Int.reduceToNat, reduceCtorEq, Int.reduceLT, Int.reduceLE, Int.reduceGT, Int.reduceGE, Int.reduceAdd, Int.reduceSub, Int.reduceMul, Int.reduceNeg, Int.reduceEq, Int.reduceNe, Int.reduceBNe, Int.reduceBEq, Int.reduceDiv, w64]
            exact hκ _ (wl rfl)
          | false =>
            simp only [go_sem, ↓reduceIte, Nat.reduceLT, Nat.reduceLeDiff, Nat.reduceAdd, Nat.reduceSub, Nat.reduceMul, Nat.reduceEqDiff, Nat.reduceBEq, Nat.reduceMod, Nat.reduceDiv, Int.reduceToNat, reduceCtorEq, Int.reduceLT, Int.reduceLE, Int.reduceGT, Int.reduceGE, Int.reduceAdd, Int.reduceSub, Int.reduceMul, Int.reduceNeg, Int.reduceEq, Int.reduceNe, Int.reduceBNe, Int.reduceBEq, Int.reduceDiv]
            exact hκ _ (wt rfl)
        simp only [go_sem, ↓reduceIte, Nat.reduceLT, Nat.reduceLeDiff, Nat.reduceAdd, Nat.reduceSub, Nat.reduceMul, Nat.reduceEqDiff, Nat.reduceBEq, Nat.reduceMod, Nat.reduceDiv, Int.reduceToNat, reduceCtorEq, Int.reduceLT, Int.reduceLE, Int.reduceGT, Int.reduceGE, Int.reduceAdd, Int.reduceSub, Int.reduceMul, Int.reduceNeg, Int.reduceEq, Int.reduceNe, Int.reduceBNe, Int.reduceBEq, Int.reduceDiv, hx]
        refine ex_cut (fun q : Bool × Nat × Nat => match q.1 with
          | false => ⟨[(0, .str (b :: t)), (1, .int .i64 d), (4, .var 4 0), (5, .int .i64 (0 : Int)), (6, .int .i64 (0 : Int)), (7, .var 7 0), (8, .int .i64 x), (9, .bool l), (10, .int .i64 (q.2.2 : Nat)), (11, .int .i64 (q.2.1 : Nat)), (22, .bool false), (28, .bool false), (34, .bool l), (40, .bool false)], [(4, [.bool false, .str [], .own false 3 []]), (7, [.bool false, .str [], .ext nilP])]⟩
          | true => ⟨[(0, .str (b :: t)), (1, .int .i64 d), (4, .var 4 0), (7, .var 7 0), (9, .bool l), (10, .int .i64 (q.2.2 : Nat)), (11, .int .i64 (q.2.1 : Nat)), (12, .int .i64 (m - 55 : Nat)), (13, .int .i64 (m - 55 : Nat)), (55, .bool false), (70, .bool false)], [(4, [.bool false, .str [], .own false 3 []]), (7, [.bool false, .str [], .ext nilP])]⟩)
          (fun q => hdOf (b :: t) = .ok (l, q.2.1, q.2.2) ∧ 1 ≤ q.2.1) (fun q hq => ?_) (fun κ hκ => ?_)
        case refine_2 =>
          rcases Decidable.em (m ≤ 55) with h55 | h55
          · have e3 : decide ((m : Int) > 55) = false := decide_eq_false (by omega)
            have hh : hdOf (b :: t) = .ok (l, 1, m) := by rw [hcons]; unfold hdRest; rw [if_pos h55]
            rw [e3]
            simp only [go_sem, ↓reduceIte, Nat.reduceLT, Nat.reduceLeDiff, Nat.reduceAdd, Nat.reduceSub, Nat.reduceMul, Nat.reduceEqDiff, Nat.reduceBEq, Nat.reduceMod, Nat.reduceDiv, Int.reduceToNat, reduceCtorEq, Int.reduceLT, Int.reduceLE, Int.reduceGT, Int.reduceGE, Int.reduceAdd, Int.reduceSub, Int.reduceMul, Int.reduceNeg, Int.reduceEq, Int.reduceNe, Int.reduceBNe, Int.reduceBEq, Int.reduceDiv]
            exact hκ (false, 1, m) ⟨hh, Nat.le_refl _⟩
          · have e3 : decide ((m : Int) > 55) = true := decide_eq_true (by omega)
            have w55 : IntKind.i64.wrap ((m : Int) - 55) = ((m - 55 : Nat) : Int) := by rw [wi64 (by omega) (by omega)]; omega
            have wf : IntKind.i64.wrap (1 + ((m - 55 : Nat) : Int)) = ((1 + (m - 55) : Nat) : Int) := by rw [wi64 (by omega) (by omega)]; omega
            unfold hdRest at hcons
            rw [if_neg h55] at hcons
            rw [e3]
            rcases Decidable.em (t.length < m - 55) with hlt | hlt
            · rw [if_pos hlt] at hcons
              have hp : parse d (b :: t) = .error 7 := by rw [parse, hcons]
              rw [hp]
              have e4 : decide (((t.length + 1 : Nat) : Int) < ((1 + (m - 55) : Nat) : Int)) = true := decide_eq_true (by omega)
              simp only [go_sem, ↓reduceIte, Nat.reduceLT, Nat.reduceLeDiff, Nat.reduceAdd, Nat.reduceSub, Nat.reduceMul, Nat.reduceEqDiff, Nat.reduceBEq, Nat.reduceMod, Nat.reduceDiv, Int.reduceToNat, reduceCtorEq, Int.reduceLT, Int.reduceLE, Int.reduceGT, Int.reduceGE, Int.reduceAdd, Int.reduceSub, Int.reduceMul, Int.reduceNeg, Int.reduceEq, Int.reduceNe, Int.reduceBNe, Int.reduceBEq, Int.reduceDiv, w55, wf, e4]
              refine ex_ret_any ?_
              refine finTupD (vs' := [.agg [.bool false, .str [], .ext nilP], .int .i64 (0 : Int), .int .i64 (7 : Int)]) ?_ (fins3 (dull_none _ _) _)
              show resOf _ _ [.cell 4 54, .tmp 5, .tmp 6] = _
              simp only [go_sem, ↓reduceIte, Nat.reduceLT, Nat.reduceLeDiff, Nat.reduceAdd, Nat.reduceSub, Nat.reduceMul, Nat.reduceEqDiff, Nat.reduceBEq, Nat.reduceMod, Nat.reduceDiv, Int.reduceToNat, reduceCtorEq, Int.reduceLT, Int.reduceLE, Int.reduceGT, Int.reduceGE, Int.reduceAdd, Int.reduceSub, Int.reduceMul, Int.reduceNeg, Int.reduceEq, Int.reduceNe, Int.reduceBNe, Int.reduceBEq, Int.reduceDiv]
            · rw [if_neg hlt] at hcons
              have e4 : decide (((t.length + 1 : Nat) : Int) < ((1 + (m - 55) : Nat) : Int)) = false := decide_eq_false (by omega)
              obtain ⟨c0, hc0⟩ : ∃ c0, t[0]? = some c0 := ⟨_, List.getElem?_eq_getElem (by omega)⟩
              have h1lt : (1 : Int) < ((t.length + 1 : Nat) : Int) := by omega
              rcases Decidable.em (t.head? = some 0) with hz | hz
              · rw [if_pos hz] at hcons
                have hp : parse d (b :: t) = .error 1 := by rw [parse, hcons]
                rw [hp]
                have hc : c0 = 0 := by rw [List.head?_eq_getElem?, hc0] at hz; exact Option.some.inj hz
                have e5 : ((c0.toNat : Int) == 0) = true := by rw [hc]; rfl
                simp only [go_sem, ↓reduceIte, Nat.reduceLT, Nat.reduceLeDiff, Nat.reduceAdd, Nat.reduceSub, Nat.reduceMul, Nat.reduceEqDiff, Nat.reduceBEq, Nat.reduceMod, Nat.reduceDiv, Int.reduceToNat, reduceCtorEq, Int.reduceLT, Int.reduceLE, Int.reduceGT, Int.reduceGE, Int.reduceAdd, Int.reduceSub, Int.reduceMul, Int.reduceNeg, Int.reduceEq, Int.reduceNe, Int.reduceBNe, Int.reduceBEq, Int.reduceDiv, w55, wf, e4, hc0, h1lt, e5]
                refine ex_ret_any ?_
                refine finTupD (vs' := [.agg [.bool false, .str [], .ext nilP], .int .i64 (0 : Int), .int .i64 (1 : Int)]) ?_ (fins3 (dull_none _ _) _)
                show resOf _ _ [.cell 4 54, .tmp 5, .tmp 6] = _
                simp only [go_sem, ↓reduceIte, Nat.reduceLT, Nat.reduceLeDiff, Nat.reduceAdd, Nat.reduceSub, Nat.reduceMul, Nat.reduceEqDiff, Nat.reduceBEq, Nat.reduceMod, Nat.reduceDiv, Int.reduceToNat, reduceCtorEq, Int.reduceLT, Int.reduceLE, Int.reduceGT, Int.reduceGE, Int.reduceAdd, Int.reduceSub, Int.reduceMul, Int.reduceNeg, Int.reduceEq, Int.reduceNe, Int.reduceBNe, Int.reduceBEq, Int.reduceDiv]
              · rw [if_neg hz] at hcons
                have hc : c0.toNat ≠ 0 := fun e => hz (by rw [List.head?_eq_getElem?, hc0, UInt8.toNat_inj.1 (show c0.toNat = (0 : UInt8).toNat from e)])
                have e5 : ((c0.toNat : Int) == 0) = false := by simpa using hc
                simp only [go_sem, ↓reduceIte, Nat.reduceLT, Nat.reduceLeDiff, Nat.reduceAdd, Nat.reduceSub, Nat.reduceMul, Nat.reduceEqDiff, Nat.reduceBEq, Nat.reduceMod, Nat.reduceDiv, Int.reduceToNat, reduceCtorEq, Int.reduceLT, Int.reduceLE, Int.reduceGT, Int.reduceGE, Int.reduceAdd, Int.reduceSub, Int.reduceMul, Int.reduceNeg, Int.reduceEq, Int.reduceNe, Int.reduceBNe, Int.reduceBEq, Int.reduceDiv, w55, wf, e4, hc0, h1lt, e5]
                refine ex_iter [0, 1, 4, 7, 9, 10, 12, 13] (fun i : Nat => ⟨[(0, .str (b :: t)), (1, .int .i64 d), (4, .var 4 0), (7, .var 7 0), (9, .bool l), (10, .int .i64 (numOf (t.take i) : Nat)), (12, .int .i64 (m - 55 : Nat)), (13, .int .i64 i)], [(4, [.bool false, .str [], .own false 3 []]), (7, [.bool false, .str [], .ext nilP])]⟩)
                  (fun i => i ≤ m - 55 ∧ numOf (t.take i) ≤ 65536) (fun i => m - 55 - i) 0 ?_ ?_ ?_
                · simp only [ASt.keep, consIf, keepL, keepV, AV.isBot, List.contains_cons, List.contains_nil, Nat.reduceBEq, Bool.or_false, Bool.false_or, Bool.or_true, Bool.true_or, beq_self_eq_true, Bool.false_eq_true, ↓reduceIte, if_false, if_true]
                  rfl
                · exact ⟨Nat.zero_le _, by rw [List.take_zero]; decide⟩
                · rintro r i ⟨hi, hni⟩ next
                  simp only [go_sem, ↓reduceIte, Nat.reduceLT, Nat.reduceLeDiff, Nat.reduceAdd, Nat.reduceSub, Nat.reduceMul, Nat.reduceEqDiff, Nat.reduceBEq, Nat.reduceMod, Nat.reduceDiv, Int.reduceToNat, reduceCtorEq, Int.reduceLT, Int.reduceLE, Int.reduceGT, Int.reduceGE, Int.reduceAdd, Int.reduceSub, Int.reduceMul, Int.reduceNeg, Int.reduceEq, Int.reduceNe, Int.reduceBNe, Int.reduceBEq, Int.reduceDiv]
                  refine ex_br (fun hc1 => ?_) (fun hc1 => ?_)
                  · have hilt : i < m - 55 := by simpa using hc1
                    obtain ⟨c, hc⟩ : ∃ c, t[i]? = some c := ⟨_, List.getElem?_eq_getElem (by omega)⟩
                    have hcl : c.toNat < 256 := c.toNat_lt
                    have hget : (b :: t)[1 + i]? = some c := by rw [Nat.add_comm, List.getElem?_cons_succ]; exact hc
                    have hsn : numOf (t.take (i + 1)) = numOf (t.take i) * 256 + c.toNat := by rw [List.take_add_one, hc]; exact numOf_snoc _ _
                    have w1 : IntKind.i64.wrap ((numOf (t.take i) : Int) * 256) = (numOf (t.take i) : Int) * 256 := wi64 (by omega) (by omega)
                    have w2 : IntKind.i64.wrap (1 + (i : Int)) = ((1 + i : Nat) : Int) := by rw [wi64 (by omega) (by omega)]; omega
                    have w3 : IntKind.i64.wrap (c.toNat : Int) = (c.toNat : Int) := wi64n _ (by omega)
                    have w4 : IntKind.i64.wrap ((numOf (t.take i) : Int) * 256 + (c.toNat : Int)) = (numOf (t.take (i + 1)) : Int) := by rw [wi64 (by omega) (by omega), hsn]; omega
                    simp only [go_sem, ↓reduceIte, Nat.reduceLT, Nat.reduceLeDiff, Nat.reduceAdd, Nat.reduceSub, Nat.reduceMul, Nat.reduceEqDiff, Nat.reduceBEq, Nat.reduceMod, Nat.reduceDiv, Int.reduceToNat, reduceCtorEq, Int.reduceLT, Int.reduceLE, Int.reduceGT, Int.reduceGE, Int.reduceAdd, Int.reduceSub, Int.reduceMul, Int.reduceNeg, Int.reduceEq, Int.reduceNe, Int.reduceBNe, Int.reduceBEq, Int.reduceDiv, w1, w2, w3, w4, Int.toNat_natCast, hget]
                    refine ⟨by omega, ?_⟩
                    refine ex_br (fun hc2 => ?_) (fun hc2 => ?_)
                    · have hbig : numOf (t.take (i + 1)) > 65536 := by simp at hc2; omega
                      have := numOf_take_le t (show i + 1 ≤ m - 55 by omega)
                      rw [if_pos (.inl (by omega))] at hcons
                      have hp : parse d (b :: t) = .error 1 := by rw [parse, hcons]
                      rw [hp]
                      simp only [go_sem, ↓reduceIte, Nat.reduceLT, Nat.reduceLeDiff, Nat.reduceAdd, Nat.reduceSub, Nat.reduceMul, Nat.reduceEqDiff, Nat.reduceBEq, Nat.reduceMod, Nat.reduceDiv, Int.reduceToNat, reduceCtorEq, Int.reduceLT, Int.reduceLE, Int.reduceGT, Int.reduceGE, Int.reduceAdd, Int.reduceSub, Int.reduceMul, Int.reduceNeg, Int.reduceEq, Int.reduceNe, Int.reduceBNe, Int.reduceBEq, Int.reduceDiv]
                      refine ex_ret_any ?_
                      refine finTupD (vs' := [.agg [.bool false, .str [], .ext nilP], .int .i64 (0 : Int), .int .i64 (1 : Int)]) ?_ (fins3 (dull_none _ _) _)
                      show resOf _ _ [.cell 4 54, .tmp 5, .tmp 6] = _
                      simp only [go_sem, ↓reduceIte, Nat.reduceLT, Nat.reduceLeDiff, Nat.reduceAdd, Nat.reduceSub, Nat.reduceMul, Nat.reduceEqDiff, Nat.reduceBEq, Nat.reduceMod, Nat.reduceDiv, Int.reduceToNat, reduceCtorEq, Int.reduceLT, Int.reduceLE, Int.reduceGT, Int.reduceGE, Int.reduceAdd, Int.reduceSub, Int.reduceMul, Int.reduceNeg, Int.reduceEq, Int.reduceNe, Int.reduceBNe, Int.reduceBEq, Int.reduceDiv]
                    · have hsm : numOf (t.take (i + 1)) ≤ 65536 := by simp at hc2; omega
                      simp only [go_sem, ↓reduceIte, Nat.reduceLT, Nat.reduceLeDiff, Nat.reduceAdd, Nat.reduceSub, Nat.reduceMul, Nat.reduceEqDiff, Nat.reduceBEq, Nat.reduceMod, Nat.reduceDiv, Int.reduceToNat, reduceCtorEq, Int.reduceLT, Int.reduceLE, Int.reduceGT, Int.reduceGE, Int.reduceAdd, Int.reduceSub, Int.reduceMul, Int.reduceNeg, Int.reduceEq, Int.reduceNe, Int.reduceBNe, Int.reduceBEq, Int.reduceDiv]
                      refine next (i + 1) _ ⟨by omega, hsm⟩ (by omega) ?_
                      rw [← wi64_nat i (by omega)]
                      simp only [ASt.keep, consIf, keepL, keepV, AV.isBot, List.contains_cons, List.contains_nil, Nat.reduceBEq, Bool.or_false, Bool.false_or, Bool.or_true, Bool.true_or, beq_self_eq_true, Bool.false_eq_true, ↓reduceIte, if_false, if_true]
                  · have hie : i = m - 55 := by simp at hc1; omega
                    subst hie
                    have hirr : decide (((m - 55 : Nat) : Int) < ((m - 55 : Nat) : Int)) = false := decide_eq_false (by omega)
                    rw [hirr]
                    simp only [go_sem, ↓reduceIte, Nat.reduceLT, Nat.reduceLeDiff, Nat.reduceAdd, Nat.reduceSub, Nat.reduceMul, Nat.reduceEqDiff, Nat.reduceBEq, Nat.reduceMod, Nat.reduceDiv, Int.reduceToNat, reduceCtorEq, Int.reduceLT, Int.reduceLE, Int.reduceGT, Int.reduceGE, Int.reduceAdd, Int.reduceSub, Int.reduceMul, Int.reduceNeg, Int.reduceEq, Int.reduceNe, Int.reduceBNe, Int.reduceBEq, Int.reduceDiv]
                    rcases Decidable.em (numOf (t.take (m - 55)) < 56) with h7 | h7
                    · have e7 : decide ((numOf (t.take (m - 55)) : Int) < 56) = true := decide_eq_true (by omega)
                      rw [if_pos (.inr (by omega))] at hcons
                      have hp : parse d (b :: t) = .error 1 := by rw [parse, hcons]
                      rw [hp]
                      simp only [go_sem, ↓reduceIte, Nat.reduceLT, Nat.reduceLeDiff, Nat.reduceAdd, Nat.reduceSub, Nat.reduceMul, Nat.reduceEqDiff, Nat.reduceBEq, Nat.reduceMod, Nat.reduceDiv, Int.reduceToNat, reduceCtorEq, Int.reduceLT, Int.reduceLE, Int.reduceGT, Int.reduceGE, Int.reduceAdd, Int.reduceSub, Int.reduceMul, Int.reduceNeg, Int.reduceEq, Int.reduceNe, Int.reduceBNe, Int.reduceBEq, Int.reduceDiv, e7]
                      refine ex_ret_any ?_
                      refine finTupD (vs' := [.agg [.bool false, .str [], .ext nilP], .int .i64 (0 : Int), .int .i64 (1 : Int)]) ?_ (fins3 (dull_none _ _) _)
                      show resOf _ _ [.cell 4 54, .tmp 5, .tmp 6] = _
                      simp only [go_sem, ↓reduceIte, Nat.reduceLT, Nat.reduceLeDiff, Nat.reduceAdd, Nat.reduceSub, Nat.reduceMul, Nat.reduceEqDiff, Nat.reduceBEq, Nat.reduceMod, Nat.reduceDiv, Int.reduceToNat, reduceCtorEq, Int.reduceLT, Int.reduceLE, Int.reduceGT, Int.reduceGE, Int.reduceAdd, Int.reduceSub, Int.reduceMul, Int.reduceNeg, Int.reduceEq, Int.reduceNe, Int.reduceBNe, Int.reduceBEq, Int.reduceDiv]
                    · have e7 : decide ((numOf (t.take (m - 55)) : Int) < 56) = false := decide_eq_false (by omega)
                      rw [if_neg (by omega)] at hcons
                      simp only [go_sem, ↓reduceIte, Nat.reduceLT, Nat.reduceLeDiff, Nat.reduceAdd, Nat.reduceSub, Nat.reduceMul, Nat.reduceEqDiff, Nat.reduceBEq, Nat.reduceMod, Nat.reduceDiv, Int.reduceToNat, reduceCtorEq, Int.reduceLT, Int.reduceLE, Int.reduceGT, Int.reduceGE, Int.reduceAdd, Int.reduceSub, Int.reduceMul, Int.reduceNeg, Int.reduceEq, Int.reduceNe, Int.reduceBNe, Int.reduceBEq, Int.reduceDiv, e7, wf]
                      exact hκ (true, 1 + (m - 55), numOf (t.take (m - 55))) ⟨hcons, Nat.le_add_right 1 _⟩
        obtain ⟨o, f, n⟩ := q
        obtain ⟨hh, hf⟩ := hq
        simp only at hh hf
        obtain ⟨b1, b2, b3⟩ := hd_bounds hh
        rw [parse_body hh]
        have wfn : IntKind.i64.wrap ((f : Int) + (n : Int)) = ((f + n : Nat) : Int) := by rw [wi64 (by omega) (by omega)]; omega
        have hsub : f + n - f = n := by omega
        unfold bodyR
        rw [List.length_cons]
        cases o
        all_goals
          rcases Decidable.em (f + n > 65536) with h2 | h2
          · rw [if_pos h2]
            have e3 : decide (((f + n : Nat) : Int) > 65536) = true := decide_eq_true (by omega)
            simp only [go_sem, ↓reduceIte, Nat.reduceLT, Nat.reduceLeDiff, Nat.reduceAdd, Nat.reduceSub, Nat.reduceMul, Nat.reduceEqDiff, Nat.reduceBEq, Nat.reduceMod, Nat.reduceDiv, Int.reduceToNat, reduceCtorEq, Int.reduceLT, Int.reduceLE, Int.reduceGT, Int.reduceGE, Int.reduceAdd, Int.reduceSub, Int.reduceMul, Int.reduceNeg, Int.reduceEq, Int.reduceNe, Int.reduceBNe, Int.reduceBEq, Int.reduceDiv, wfn, e3]
            refine finTupD (vs' := [.agg [.bool false, .str [], .ext nilP], .int .i64 (0 : Int), .int .i64 (1 : Int)]) ?_ (fins3 (dull_none _ _) _)
            show resOf _ _ [.cell 4 54, .tmp 5, .tmp 6] = _
            simp only [go_sem, ↓reduceIte, Nat.reduceLT, Nat.reduceLeDiff, Nat.reduceAdd, Nat.reduceSub, Nat.reduceMul, Nat.reduceEqDiff, Nat.reduceBEq, Nat.reduceMod, Nat.reduceDiv, Int.reduceToNat, reduceCtorEq, Int.reduceLT, Int.reduceLE, Int.reduceGT, Int.reduceGE, Int.reduceAdd, Int.reduceSub, Int.reduceMul, Int.reduceNeg, Int.reduceEq, Int.reduceNe, Int.reduceBNe, Int.reduceBEq, Int.reduceDiv]
          rw [if_neg h2]
          have e3 : decide (((f + n : Nat) : Int) > 65536) = false := decide_eq_false (by omega)
          rcases Decidable.em (t.length + 1 < f + n) with h3 | h3
          · rw [if_pos h3]
            have e4 : decide (((t.length + 1 : Nat) : Int) < ((f + n : Nat) : Int)) = true := decide_eq_true (by omega)
            simp only [go_sem, ↓reduceIte, Nat.reduceLT, Nat.reduceLeDiff, Nat.reduceAdd, Nat.reduceSub, Nat.reduceMul, Nat.reduceEqDiff, Nat.reduceBEq, Nat.reduceMod, Nat.reduceDiv, Int.reduceToNat, reduceCtorEq, Int.reduceLT, Int.reduceLE, Int.reduceGT, Int.reduceGE, Int.reduceAdd, Int.reduceSub, Int.reduceMul, Int.reduceNeg, Int.reduceEq, Int.reduceNe, Int.reduceBNe, Int.reduceBEq, Int.reduceDiv, wfn, e3, e4]
            refine finTupD (vs' := [.agg [.bool false, .str [], .ext nilP], .int .i64 (0 : Int), .int .i64 (7 : Int)]) ?_ (fins3 (dull_none _ _) _)
            show resOf _ _ [.cell 4 54, .tmp 5, .tmp 6] = _
            simp only [go_sem, ↓reduceIte, Nat.reduceLT, Nat.reduceLeDiff, Nat.reduceAdd, Nat.reduceSub, Nat.reduceMul, Nat.reduceEqDiff, Nat.reduceBEq, Nat.reduceMod, Nat.reduceDiv, Int.reduceToNat, reduceCtorEq, Int.reduceLT, Int.reduceLE, Int.reduceGT, Int.reduceGE, Int.reduceAdd, Int.reduceSub, Int.reduceMul, Int.reduceNeg, Int.reduceEq, Int.reduceNe, Int.reduceBNe, Int.reduceBEq, Int.reduceDiv]
          rw [if_neg h3]
          have e4 : decide (((t.length + 1 : Nat) : Int) < ((f + n : Nat) : Int)) = false := decide_eq_false (by omega)
          have hlen : (((b :: t).drop f).take n).length = n := by rw [List.length_take, List.length_drop, List.length_cons]; omega
          obtain ⟨body, hbody⟩ : ∃ body, body = ((b :: t).drop f).take n := ⟨_, rfl⟩
          rw [← hbody] at hlen ⊢
          cases l
          case' false =>
            rw [if_pos rfl]
            simp only [go_sem, ↓reduceIte, Nat.reduceLT, Nat.reduceLeDiff, Nat.reduceAdd, Nat.reduceSub, Nat.reduceMul, Nat.reduceEqDiff, Nat.reduceBEq, Nat.reduceMod, Nat.reduceDiv, Int.reduceToNat, reduceCtorEq, Int.reduceLT, Int.reduceLE, Int.reduceGT, Int.reduceGE, Int.reduceAdd, Int.reduceSub, Int.reduceMul, Int.reduceNeg, Int.reduceEq, Int.reduceNe, Int.reduceBNe, Int.reduceBEq, Int.reduceDiv, wfn, e3, e4, Int.toNat_natCast, hsub]
            refine ⟨by omega, ?_⟩
            rw [← hbody]
            rcases Decidable.em (n = 1) with hn1 | hn1
            · subst hn1
              obtain ⟨c, hc⟩ : ∃ c, body = [c] := List.length_eq_one_iff.1 hlen
              subst hc
              have ha : aloneB [c] = decide (c.toNat < 128) := rfl
              have e8 : decide ((c.toNat : Int) < 128) = decide (c.toNat < 128) := decide_congr (by omega)
              rw [ha]
              cases h8 : decide (c.toNat < 128) with
              | true =>
                rw [h8] at e8
                rw [if_pos ⟨hf, rfl⟩]
                simp only [go_sem, ↓reduceIte, Nat.reduceLT, Nat.reduceLeDiff, Nat.reduceAdd, Nat.reduceSub, Nat.reduceMul, Nat.reduceEqDiff, Nat.reduceBEq, Nat.reduceMod, Nat.reduceDiv, Int.reduceToNat, reduceCtorEq, Int.reduceLT, Int.reduceLE, Int.reduceGT, Int.reduceGE, Int.reduceAdd, Int.reduceSub, Int.reduceMul, Int.reduceNeg, Int.reduceEq, Int.reduceNe, Int.reduceBNe, Int.reduceBEq, Int.reduceDiv, e8, Int.cast_ofNat_Int]
                refine finTupD (vs' := [.agg [.bool false, .str [], .ext nilP], .int .i64 (0 : Int), .int .i64 (1 : Int)]) ?_ (fins3 (dull_none _ _) _)
                show resOf _ _ [.cell 4 54, .tmp 5, .tmp 6] = _
                simp only [go_sem, ↓reduceIte, Nat.reduceLT, Nat.reduceLeDiff, Nat.reduceAdd, Nat.reduceSub, Nat.reduceMul, Nat.reduceEqDiff, Nat.reduceBEq, Nat.reduceMod, Nat.reduceDiv, Int.reduceToNat, reduceCtorEq, Int.reduceLT, Int.reduceLE, Int.reduceGT, Int.reduceGE, Int.reduceAdd, Int.reduceSub, Int.reduceMul, Int.reduceNeg, Int.reduceEq, Int.reduceNe, Int.reduceBNe, Int.reduceBEq, Int.reduceDiv]
              | false =>
                rw [h8] at e8
                rw [if_neg (fun h => by cases h.2)]
                simp only [go_sem, ↓reduceIte, Nat.reduceLT, Nat.reduceLeDiff, Nat.reduceAdd, Nat.reduceSub, Nat.reduceMul, Nat.reduceEqDiff, Nat.reduceBEq, Nat.reduceMod, Nat.reduceDiv, Int.reduceToNat, reduceCtorEq, Int.reduceLT, Int.reduceLE, Int.reduceGT, Int.reduceGE, Int.reduceAdd, Int.reduceSub, Int.reduceMul, Int.reduceNeg, Int.reduceEq, Int.reduceNe, Int.reduceBNe, Int.reduceBEq, Int.reduceDiv, e8, wfn, Int.cast_ofNat_Int]
                refine finTupD (vs' := [.agg [.bool false, .str [c], .ext nilP], .int .i64 ((f + 1 : Nat) : Int), .int .i64 (0 : Int)]) ?_ (fins3 (dull_none _ _) _)
                show resOf _ _ [.cell 4 54, .tmp 5, .tmp 6] = _
                have wf1 : IntKind.i64.wrap ((f : Int) + 1) = ((f + 1 : Nat) : Int) := wfn
                simp only [go_sem, ↓reduceIte, Nat.reduceLT, Nat.reduceLeDiff, Nat.reduceAdd, Nat.reduceSub, Nat.reduceMul, Nat.reduceEqDiff, Nat.reduceBEq, Nat.reduceMod, Nat.reduceDiv, Int.reduceToNat, reduceCtorEq, Int.reduceLT, Int.reduceLE, Int.reduceGT, Int.reduceGE, Int.reduceAdd, Int.reduceSub, Int.reduceMul, Int.reduceNeg, Int.reduceEq, Int.reduceNe, Int.reduceBNe, Int.reduceBEq, Int.reduceDiv, wf1]
            · have e8 : ((n : Int) == 1) = false := by simpa using (by omega : ¬ (n : Int) = 1)
              have ha : aloneB body = false := by
                cases hq : aloneB body with
                | false => rfl
                | true => have := alone_len hq; omega
              rw [ha, if_neg (fun h => by cases h.2)]
              simp only [go_sem, ↓reduceIte, Nat.reduceLT, Nat.reduceLeDiff, Nat.reduceAdd, Nat.reduceSub, Nat.reduceMul, Nat.reduceEqDiff, Nat.reduceBEq, Nat.reduceMod, Nat.reduceDiv, Int.reduceToNat, reduceCtorEq, Int.reduceLT, Int.reduceLE, Int.reduceGT, Int.reduceGE, Int.reduceAdd, Int.reduceSub, Int.reduceMul, Int.reduceNeg, Int.reduceEq, Int.reduceNe, Int.reduceBNe, Int.reduceBEq, Int.reduceDiv, e8, wfn]
              refine finTupD (vs' := [.agg [.bool false, .str body, .ext nilP], .int .i64 ((f + n : Nat) : Int), .int .i64 (0 : Int)]) ?_ (fins3 (dull_none _ _) _)
              show resOf _ _ [.cell 4 54, .tmp 5, .tmp 6] = _
              simp only [go_sem, ↓reduceIte, Nat.reduceLT, Nat.reduceLeDiff, Nat.reduceAdd, Nat.reduceSub, Nat.reduceMul, Nat.reduceEqDiff, Nat.reduceBEq, Nat.reduceMod, Nat.reduceDiv, Int.reduceToNat, reduceCtorEq, Int.reduceLT, Int.reduceLE, Int.reduceGT, Int.reduceGE, Int.reduceAdd, Int.reduceSub, Int.reduceMul, Int.reduceNeg, Int.reduceEq, Int.reduceNe, Int.reduceBNe, Int.reduceBEq, Int.reduceDiv]
          case' true =>
            rw [if_neg (by simp)]
            simp only [go_sem, ↓reduceIte, Nat.reduceLT, Nat.reduceLeDiff, Nat.reduceAdd, Nat.reduceSub, Nat.reduceMul, Nat.reduceEqDiff, Nat.reduceBEq, Nat.reduceMod, Nat.reduceDiv, Int.reduceToNat, reduceCtorEq, Int.reduceLT, Int.reduceLE, Int.reduceGT, Int.reduceGE, Int.reduceAdd, Int.reduceSub, Int.reduceMul, Int.reduceNeg, Int.reduceEq, Int.reduceNe, Int.reduceBNe, Int.reduceBEq, Int.reduceDiv, wfn, e3, e4, Int.toNat_natCast, hsub, wd]
            refine ⟨by omega, ?_⟩
            rw [← hbody]
            rcases Decidable.em (16 ≤ d) with h9 | h9
            · rw [if_pos h9]
              have e9 : decide (((d + 1 : Nat) : Int) > 16) = true := decide_eq_true (by omega)
              simp only [go_sem, ↓reduceIte, Nat.reduceLT, Nat.reduceLeDiff, Nat.reduceAdd, Nat.reduceSub, Nat.reduceMul, Nat.reduceEqDiff, Nat.reduceBEq, Nat.reduceMod, Nat.reduceDiv, Int.reduceToNat, reduceCtorEq, Int.reduceLT, Int.reduceLE, Int.reduceGT, Int.reduceGE, Int.reduceAdd, Int.reduceSub, Int.reduceMul, Int.reduceNeg, Int.reduceEq, Int.reduceNe, Int.reduceBNe, Int.reduceBEq, Int.reduceDiv, e9]
              refine finTupD (vs' := [.agg [.bool false, .str [], .ext nilP], .int .i64 (0 : Int), .int .i64 (1 : Int)]) ?_ (fins3 (dull_none _ _) _)
              show resOf _ _ [.cell 4 54, .tmp 5, .tmp 6] = _
              simp only [go_sem, ↓reduceIte, Nat.reduceLT, Nat.reduceLeDiff, Nat.reduceAdd, Nat.reduceSub, Nat.reduceMul, Nat.reduceEqDiff, Nat.reduceBEq, Nat.reduceMod, Nat.reduceDiv, Int.reduceToNat, reduceCtorEq, Int.reduceLT, Int.reduceLE, Int.reduceGT, Int.reduceGE, Int.reduceAdd, Int.reduceSub, Int.reduceMul, Int.reduceNeg, Int.reduceEq, Int.reduceNe, Int.reduceBNe, Int.reduceBEq, Int.reduceDiv]
            rw [if_neg h9]
            have e9 : decide (((d + 1 : Nat) : Int) > 16) = false := decide_eq_false (by omega)
            simp only [go_sem, ↓reduceIte, Nat.reduceLT, Nat.reduceLeDiff, Nat.reduceAdd, Nat.reduceSub, Nat.reduceMul, Nat.reduceEqDiff, Nat.reduceBEq, Nat.reduceMod, Nat.reduceDiv, Int.reduceToNat, reduceCtorEq, Int.reduceLT, Int.reduceLE, Int.reduceGT, Int.reduceGE, Int.reduceAdd, Int.reduceSub, Int.reduceMul, Int.reduceNeg, Int.reduceEq, Int.reduceNe, Int.reduceBNe, Int.reduceBEq, Int.reduceDiv, e9]
            refine ex_iter [1, 4, 7, 10, 11, 14, 15] (fun q : List ItemD × List UInt8 => ⟨[(1, .int .i64 d), (4, .var 4 0), (7, .var 7 0), (10, .int .i64 n), (11, .int .i64 f), (14, .str q.2), (15, .var 15 0)], [(4, [.bool false, .str [], .own false 3 []]), (7, [.bool false, .str [], .ext nilP]), (15, [.bool true, .str [], repI 3 q.1.length (q.1.map ItemD.av)])]⟩)
              (fun q => q.1.length + q.2.length ≤ n ∧ itemsP (d + 1) body = (itemsP (d + 1) q.2).map (q.1 ++ ·)) (fun q => q.2.length) ([], body) ?_ ?_ ?_
            · simp only [ASt.keep, consIf, keepL, keepV, AV.isBot, List.contains_cons, List.contains_nil, Nat.reduceBEq, Bool.or_false, Bool.false_or, Bool.or_true, Bool.true_or, beq_self_eq_true, Bool.false_eq_true, ↓reduceIte, if_false, if_true]
              rfl
            · refine ⟨by simp only [List.length_nil]; omega, ?_⟩
              cases itemsP (d + 1) body <;> rfl
            · rintro r ⟨xs, rest⟩ ⟨hq1, hq2⟩ next
              simp only at hq1 hq2
              simp only [go_sem, ↓reduceIte, Nat.reduceLT, Nat.reduceLeDiff, Nat.reduceAdd, Nat.reduceSub, Nat.reduceMul, Nat.reduceEqDiff, Nat.reduceBEq, Nat.reduceMod, Nat.reduceDiv, Int.reduceToNat, reduceCtorEq, Int.reduceLT, Int.reduceLE, Int.reduceGT, Int.reduceGE, Int.reduceAdd, Int.reduceSub, Int.reduceMul, Int.reduceNeg, Int.reduceEq, Int.reduceNe, Int.reduceBNe, Int.reduceBEq, Int.reduceDiv]
              refine ex_br (fun hc => ?_) (fun hc => ?_)
              · have hne : rest ≠ [] := by rintro rfl; simp at hc
                have hone := itemsP_cons (d := d + 1) hne
                have hcall := ih rest.length (by omega) rest (d + 1) (Nat.le_refl _) (by omega) (by omega)
                simp only [go_sem, ↓reduceIte, Nat.reduceLT, Nat.reduceLeDiff, Nat.reduceAdd, Nat.reduceSub, Nat.reduceMul, Nat.reduceEqDiff, Nat.reduceBEq, Nat.reduceMod, Nat.reduceDiv, Int.reduceToNat, reduceCtorEq, Int.reduceLT, Int.reduceLE, Int.reduceGT, Int.reduceGE, Int.reduceAdd, Int.reduceSub, Int.reduceMul, Int.reduceNeg, Int.reduceEq, Int.reduceNe, Int.reduceBNe, Int.reduceBEq, Int.reduceDiv, wd]
                cases ho : parse (d + 1) rest with
                | error e =>
                  rw [ho] at hcall hone
                  have he0 : ((e : Int) != 0) = true := by rcases parse_errD ho with rfl | rfl <;> rfl
                  have hnone : itemsP (d + 1) body = none := by rw [hq2, hone]; rfl
                  rw [hnone]
                  unfold resP at hcall
                  refine ex_call (by exact hcall) ?_
                  simp only [go_sem, ↓reduceIte, Nat.reduceLT, Nat.reduceLeDiff, Nat.reduceAdd, Nat.reduceSub, Nat.reduceMul, Nat.reduceEqDiff, Nat.reduceBEq, Nat.reduceMod, Nat.reduceDiv, Int.reduceToNat, reduceCtorEq, Int.reduceLT, Int.reduceLE, Int.reduceGT, Int.reduceGE, Int.reduceAdd, Int.reduceSub, Int.reduceMul, Int.reduceNeg, Int.reduceEq, Int.reduceNe, Int.reduceBNe, Int.reduceBEq, Int.reduceDiv, he0]
                  refine finTupD (vs' := [.agg [.bool false, .str [], .ext nilP], .int .i64 (0 : Int), .int .i64 (1 : Int)]) ?_ (fins3 (dull_none _ _) _)
                  show resOf _ _ [.cell 4 54, .tmp 5, .tmp 6] = _
                  simp only [go_sem, ↓reduceIte, Nat.reduceLT, Nat.reduceLeDiff, Nat.reduceAdd, Nat.reduceSub, Nat.reduceMul, Nat.reduceEqDiff, Nat.reduceBEq, Nat.reduceMod, Nat.reduceDiv, Int.reduceToNat, reduceCtorEq, Int.reduceLT, Int.reduceLE, Int.reduceGT, Int.reduceGE, Int.reduceAdd, Int.reduceSub, Int.reduceMul, Int.reduceNeg, Int.reduceEq, Int.reduceNe, Int.reduceBNe, Int.reduceBEq, Int.reduceDiv]
                | ok r2 =>
                  obtain ⟨x, k⟩ := r2
                  rw [ho] at hcall hone
                  have hpo := parse_ok ho
                  have hp1 := hpo.pos
                  have hp2 := hpo.le
                  simp only at hone
                  rw [if_pos (by omega)] at hone
                  unfold resP at hcall
                  refine ex_call (by exact hcall) ?_
                  have hinv : (xs ++ [x]).length + (rest.drop k).length ≤ n ∧ itemsP (d + 1) body = (itemsP (d + 1) (rest.drop k)).map ((xs ++ [x]) ++ ·) := by
                    refine ⟨by simp only [List.length_append, List.length_singleton, List.length_drop]; omega, ?_⟩
                    rw [hq2, hone, Option.map_map]
                    congr 1
                    funext ys
                    simp
                  have hmu : (rest.drop k).length < rest.length := by rw [List.length_drop]; omega
                  cases xs with
                  | nil =>
                    simp only [go_sem, ↓reduceIte, Nat.reduceLT, Nat.reduceLeDiff, Nat.reduceAdd, Nat.reduceSub, Nat.reduceMul, Nat.reduceEqDiff, Nat.reduceBEq, Nat.reduceMod, Nat.reduceDiv, Int.reduceToNat, reduceCtorEq, Int.reduceLT, Int.reduceLE, Int.reduceGT, Int.reduceGE, Int.reduceAdd, Int.reduceSub, Int.reduceMul, Int.reduceNeg, Int.reduceEq, Int.reduceNe, Int.reduceBNe, Int.reduceBEq, Int.reduceDiv, repI, Int.toNat_natCast]
                    repeat with_reducible refine And.intro (by first | omega | (simp only [List.length_cons, List.length_append, List.length_nil, List.length_map, List.length_take, List.length_drop, List.length_set]; omega)) ?_
                    refine next ([] ++ [x], rest.drop k) _ hinv hmu ?_
                    simp only [ASt.keep, consIf, keepL, keepV, AV.isBot, List.contains_cons, List.contains_nil, Nat.reduceBEq, Bool.or_false, Bool.false_or, Bool.or_true, Bool.true_or, beq_self_eq_true, Bool.false_eq_true, ↓reduceIte, if_false, if_true]
                    simp only [List.nil_append, List.map_cons, List.map_nil, ItemD.av_eq, ItemD.cells, List.length_singleton, repI]
                    rw [List.take_of_length_le (by simp)]
                  | cons y ys =>
                    have hyl : ys.length + 1 + rest.length ≤ n := hq1
                    simp only [go_sem, ↓reduceIte, Nat.reduceLT, Nat.reduceLeDiff, Nat.reduceAdd, Nat.reduceSub, Nat.reduceMul, Nat.reduceEqDiff, Nat.reduceBEq, Nat.reduceMod, Nat.reduceDiv, Int.reduceToNat, reduceCtorEq, Int.reduceLT, Int.reduceLE, Int.reduceGT, Int.reduceGE, Int.reduceAdd, Int.reduceSub, Int.reduceMul, Int.reduceNeg, Int.reduceEq, Int.reduceNe, Int.reduceBNe, Int.reduceBEq, Int.reduceDiv, repI, List.length_map, Int.toNat_natCast]
                    repeat with_reducible refine And.intro (by first | omega | (simp only [List.length_cons, List.length_append, List.length_nil, List.length_map, List.length_take, List.length_drop, List.length_set]; omega)) ?_
                    refine next ((y :: ys) ++ [x], rest.drop k) _ hinv hmu ?_
                    simp only [ASt.keep, consIf, keepL, keepV, AV.isBot, List.contains_cons, List.contains_nil, Nat.reduceBEq, Bool.or_false, Bool.false_or, Bool.or_true, Bool.true_or, beq_self_eq_true, Bool.false_eq_true, ↓reduceIte, if_false, if_true]
                    simp only [List.cons_append, List.map_append, List.map_cons, List.map_nil, ItemD.av_eq, ItemD.cells, List.length_cons, repI]
                    rw [List.take_of_length_le (by simp)]
              · have hnil : rest = [] := by
                  cases rest with
                  | nil => rfl
                  | cons _ _ => simp at hc
                subst hnil
                have hsome : itemsP (d + 1) body = some xs := by rw [hq2, itemsP_nil]; simp
                rw [hsome]
                cases xs with
                | nil =>
                  simp only [go_sem, ↓reduceIte, Nat.reduceLT, Nat.reduceLeDiff, Nat.reduceAdd, Nat.reduceSub, Nat.reduceMul, Nat.reduceEqDiff, Nat.reduceBEq, Nat.reduceMod, Nat.reduceDiv, Int.reduceToNat, reduceCtorEq, Int.reduceLT, Int.reduceLE, Int.reduceGT, Int.reduceGE, Int.reduceAdd, Int.reduceSub, Int.reduceMul, Int.reduceNeg, Int.reduceEq, Int.reduceNe, Int.reduceBNe, Int.reduceBEq, Int.reduceDiv, repI, wfn]
                  refine finTupD (vs' := [.agg [.bool true, .str [], .ext nilP], .int .i64 ((f + n : Nat) : Int), .int .i64 (0 : Int)]) ?_ (fins3 (dull_none _ _) _)
                  show resOf _ _ [.cell 4 54, .tmp 5, .tmp 6] = _
                  simp only [go_sem, ↓reduceIte, Nat.reduceLT, Nat.reduceLeDiff, Nat.reduceAdd, Nat.reduceSub, Nat.reduceMul, Nat.reduceEqDiff, Nat.reduceBEq, Nat.reduceMod, Nat.reduceDiv, Int.reduceToNat, reduceCtorEq, Int.reduceLT, Int.reduceLE, Int.reduceGT, Int.reduceGE, Int.reduceAdd, Int.reduceSub, Int.reduceMul, Int.reduceNeg, Int.reduceEq, Int.reduceNe, Int.reduceBNe, Int.reduceBEq, Int.reduceDiv]
                | cons y ys =>
                  simp only [go_sem, ↓reduceIte, Nat.reduceLT, Nat.reduceLeDiff, Nat.reduceAdd, Nat.reduceSub, Nat.reduceMul, Nat.reduceEqDiff, Nat.reduceBEq, Nat.reduceMod, Nat.reduceDiv, Int.reduceToNat, reduceCtorEq, Int.reduceLT, Int.reduceLE, Int.reduceGT, Int.reduceGE, Int.reduceAdd, Int.reduceSub, Int.reduceMul, Int.reduceNeg, Int.reduceEq, Int.reduceNe, Int.reduceBNe, Int.reduceBEq, Int.reduceDiv, repI, wfn]
                  refine finTupD (vs' := [.agg [.bool true, .str [], .sl true 3 ((y :: ys).map ItemD.av)], .int .i64 ((f + n : Nat) : Int), .int .i64 (0 : Int)]) ?_ (fins3 (dull_item _ _ _ _) _)
                  show resOf _ _ [.cell 4 54, .tmp 5, .tmp 6] = _
                  simp only [go_sem, ↓reduceIte, Nat.reduceLT, Nat.reduceLeDiff, Nat.reduceAdd, Nat.reduceSub, Nat.reduceMul, Nat.reduceEqDiff, Nat.reduceBEq, Nat.reduceMod, Nat.reduceDiv, Int.reduceToNat, reduceCtorEq, Int.reduceLT, Int.reduceLE, Int.reduceGT, Int.reduceGE, Int.reduceAdd, Int.reduceSub, Int.reduceMul, Int.reduceNeg, Int.reduceEq, Int.reduceNe, Int.reduceBNe, Int.reduceBEq, Int.reduceDiv]
end Go.Proofs.Ytjfnmlheehbojaa.VA
end
section
/- Items out of bytes: the page's answer at the top. -/
namespace Go.Proofs.Ytjfnmlheehbojaa.VA
set_option maxRecDepth 10000
set_option linter.unusedSimpArgs false
set_option linter.unusedVariables false
set_option maxHeartbeats 4000000

theorem c_ref4_Take (s : List UInt8) (hs : s.length ≤ 16777216) : Contract Try.prog 50 [.str s] (resP (parse 0 s)) := by
  have h := c_take s.length s 0 (Nat.le_refl _) hs (by omega)
  cases hp : parse 0 s with
  | error e =>
    rw [hp] at h
    unfold resP at h
    refine contract_of (C := cf 10 [0, 2, 3, 4] (fun _ => [])) (cf_ok _ _ _) (fn := Try.f50) Try.func50 (by kernel_rfl) rfl (by kernel_rfl) (by simp [cf]) (plain1 (.str _)) (by decide) (cellsOk (by kernel_rfl)) ?_
    simp only [go_sem, ↓reduceIte, Nat.reduceLT, Nat.reduceLeDiff, Nat.reduceAdd, Nat.reduceSub, Nat.reduceMul, Nat.reduceEqDiff, Nat.reduceBEq, Nat.reduceMod, Nat.reduceDiv, Int.reduceToNat, reduceCtorEq, Int.reduceLT, Int.reduceLE, Int.reduceGT, Int.reduceGE, Int.reduceAdd, Int.reduceSub, Int.reduceMul, Int.reduceNeg, Int.reduceEq, Int.reduceNe, Int.reduceBNe, Int.reduceBEq, Int.reduceDiv]
    refine ex_call (by exact h) ?_
    simp only [go_sem, ↓reduceIte, Nat.reduceLT, Nat.reduceLeDiff, Nat.reduceAdd, Nat.reduceSub, Nat.reduceMul, Nat.reduceEqDiff, Nat.reduceBEq, Nat.reduceMod, Nat.reduceDiv, Int.reduceToNat, reduceCtorEq, Int.reduceLT, Int.reduceLE, Int.reduceGT, Int.reduceGE, Int.reduceAdd, Int.reduceSub, Int.reduceMul, Int.reduceNeg, Int.reduceEq, Int.reduceNe, Int.reduceBNe, Int.reduceBEq, Int.reduceDiv]
    refine finTup ?_
    show resOf _ _ [.cell 2 54, .tmp 3, .tmp 4] = _
    simp only [go_sem, ↓reduceIte, Nat.reduceLT, Nat.reduceLeDiff, Nat.reduceAdd, Nat.reduceSub, Nat.reduceMul, Nat.reduceEqDiff, Nat.reduceBEq, Nat.reduceMod, Nat.reduceDiv, Int.reduceToNat, reduceCtorEq, Int.reduceLT, Int.reduceLE, Int.reduceGT, Int.reduceGE, Int.reduceAdd, Int.reduceSub, Int.reduceMul, Int.reduceNeg, Int.reduceEq, Int.reduceNe, Int.reduceBNe, Int.reduceBEq, Int.reduceDiv]
  | ok r =>
    obtain ⟨it, k⟩ := r
    rw [hp] at h
    unfold resP at h
    refine contract_of (C := cf 10 [0, 2, 3, 4] (fun _ => [])) (cf_ok _ _ _) (fn := Try.f50) Try.func50 (by kernel_rfl) rfl (by kernel_rfl) (by simp [cf]) (plain1 (.str _)) (by decide) (cellsOk (by kernel_rfl)) ?_
    simp only [go_sem, ↓reduceIte, Nat.reduceLT, Nat.reduceLeDiff, Nat.reduceAdd, Nat.reduceSub, Nat.reduceMul, Nat.reduceEqDiff, Nat.reduceBEq, Nat.reduceMod, Nat.reduceDiv, Int.reduceToNat, reduceCtorEq, Int.reduceLT, Int.reduceLE, Int.reduceGT, Int.reduceGE, Int.reduceAdd, Int.reduceSub, Int.reduceMul, Int.reduceNeg, Int.reduceEq, Int.reduceNe, Int.reduceBNe, Int.reduceBEq, Int.reduceDiv]
    refine ex_call (by exact h) ?_
    simp only [go_sem, ↓reduceIte, Nat.reduceLT, Nat.reduceLeDiff, Nat.reduceAdd, Nat.reduceSub, Nat.reduceMul, Nat.reduceEqDiff, Nat.reduceBEq, Nat.reduceMod, Nat.reduceDiv, Int.reduceToNat, reduceCtorEq, Int.reduceLT, Int.reduceLE, Int.reduceGT, Int.reduceGE, Int.reduceAdd, Int.reduceSub, Int.reduceMul, Int.reduceNeg, Int.reduceEq, Int.reduceNe, Int.reduceBNe, Int.reduceBEq, Int.reduceDiv]
    refine finTup ?_
    show resOf _ _ [.cell 2 54, .tmp 3, .tmp 4] = _
    simp only [go_sem, ↓reduceIte, Nat.reduceLT, Nat.reduceLeDiff, Nat.reduceAdd, Nat.reduceSub, Nat.reduceMul, Nat.reduceEqDiff, Nat.reduceBEq, Nat.reduceMod, Nat.reduceDiv, Int.reduceToNat, reduceCtorEq, Int.reduceLT, Int.reduceLE, Int.reduceGT, Int.reduceGE, Int.reduceAdd, Int.reduceSub, Int.reduceMul, Int.reduceNeg, Int.reduceEq, Int.reduceNe, Int.reduceBNe, Int.reduceBEq, Int.reduceDiv]
theorem parse_itok {s : List UInt8} {it : ItemD} {k : Nat} (hs : s.length ≤ 4194304) (h : parse 0 s = .ok (it, k)) : it.ok := by
  have := (parse_ok h).wt
  have := (parse_ok h).le
  unfold ItemD.ok; omega
end Go.Proofs.Ytjfnmlheehbojaa.VA
end
section
/- ItemEdges: the law's function answers true. -/
namespace Go.Proofs.Ytjfnmlheehbojaa.VA
set_option maxRecDepth 10000
set_option linter.unusedSimpArgs false
set_option linter.unusedVariables false
set_option maxHeartbeats 16000000

def zeroT (n : Nat) : ItemD := .mk false (List.replicate n 0) []
def aItem : ItemD := .mk false [97] []
def listT (n : Nat) : ItemD := .mk true [] (List.replicate n aItem)
theorem edge_text (n : Nat) (h1 : 54 ≤ n) (h2 : n ≤ 57) : (zeroT n).ok ∧ okI 0 (zeroT n) = true ∧ (bytesI (zeroT n)).length = n + (if n ≤ 55 then 1 else 2) := by
  obtain rfl | rfl | rfl | rfl : n = 54 ∨ n = 55 ∨ n = 56 ∨ n = 57 := by omega
  all_goals (unfold ItemD.ok; decide +kernel)
theorem edge_list (n : Nat) (h1 : 54 ≤ n) (h2 : n ≤ 57) : (listT n).ok ∧ okI 0 (listT n) = true ∧ (bytesI (listT n)).length = n + (if n ≤ 55 then 1 else 2) := by
  obtain rfl | rfl | rfl | rfl : n = 54 ∨ n = 55 ∨ n = 56 ∨ n = 57 := by omega
  all_goals (unfold ItemD.ok; decide +kernel)
theorem asU8_zeros : ∀ n : Nat, asU8 (List.replicate n (AV.int .u8 0)) = some (List.replicate n 0)
  | 0 => rfl
  | n + 1 => by rw [List.replicate_succ, asU8, asU8_zeros n]; rfl
/-- Lists within lists. -/
def nestI : Nat → ItemD
  | 0 => .mk true [] []
  | k + 1 => .mk true [] [nestI k]
def nestR : Nat → AV
  | 0 => .ext nilP
  | k + 1 => .sl true 3 [.agg [.bool true, .str [], nestR k]]
theorem nest_dull : ∀ k : Nat, Dull (.agg [.bool true, .str [], nestR k]) (.agg [.bool (nestI k).list, .str (nestI k).text, .sl false 3 ((nestI k).items.map ItemD.av)])
  | 0 => dull_none _ _
  | k + 1 => by
    refine dulls_agg (.cons (.refl _) (.cons (.refl _) (.cons ?_ .nil)))
    refine .sl _ _ _ _ rfl fun j x y h e => ?_
    match j, h, e with
    | 0, h, e => cases h; cases e; rw [itA_av]; exact nest_dull k
    | j + 1, h, e => cases h
theorem nest_all : ∀ k : _root_.Fin 17, (nestI k.val).ok ∧ okI 0 (nestI k.val) = decide (k.val < 16) ∧ (k.val < 16 → (bytesI (nestI k.val)).length = k.val + 1) := by
  unfold ItemD.ok; decide +kernel
theorem bad0 : parse 0 [129, 97] = .error 1 := by rw [parse_body (l := false) (f := 1) (n := 1) rfl]; rfl
theorem bad1 : parse 0 [184, 5, 97, 98, 99, 100, 101] = .error 1 := by rw [parse, show hdOf [184, 5, 97, 98, 99, 100, 101] = .error 1 from rfl]
theorem bad2 : parse 0 [185, 0, 64] = .error 1 := by rw [parse, show hdOf [185, 0, 64] = .error 1 from rfl]
theorem bad3 : parse 0 [248, 1, 97] = .error 1 := by rw [parse, show hdOf [248, 1, 97] = .error 1 from rfl]
theorem bad4 : parse 0 [193, 129] = .error 1 := by
  have h : parse 1 [129] = .error 7 := by rw [parse_body (l := false) (f := 1) (n := 1) rfl]; rfl
  have h2 : itemsP 1 [129] = none := by rw [itemsP_cons (by simp), h]
  rw [parse_body (l := true) (f := 1) (n := 1) rfl]
  unfold bodyR
  rw [if_neg (by decide), if_neg (by decide), if_neg (by decide), if_neg (by decide)]
  show (match itemsP 1 [129] with | some xs => _ | none => _) = _
  rw [h2]
theorem bad5 : parse 0 [187, 255, 255, 255, 255] = .error 1 := by rw [parse, show hdOf [187, 255, 255, 255, 255] = .error 1 from rfl]
theorem cut0 : parse 0 [] = .error 7 := by rw [parse, show hdOf [] = .error 7 from rfl]
theorem cut1 : parse 0 [185, 0] = .error 7 := by rw [parse, show hdOf [185, 0] = .error 7 from rfl]
theorem repI_pos {sz i : Nat} {es : List AV} (h : 0 < i) : repI sz i es = .own false sz es := by
  cases i with
  | zero => exact absurd h (by omega)
  | succ i => rfl
theorem list_dull (n : Nat) : Dull (.agg [.bool true, .str [], .sl true 3 (List.replicate n (.agg [.bool false, .str [97], .ext nilP]))]) (.agg [.bool (listT n).list, .str (listT n).text, .sl false 3 ((listT n).items.map ItemD.av)]) := by
  refine dulls_agg (.cons (.refl _) (.cons (.refl _) (.cons ?_ .nil)))
  refine .sl _ _ _ _ (by simp [listT, ItemD.items]) fun j x y h e => ?_
  simp only [listT, ItemD.items, List.map_replicate, List.getElem?_replicate] at h e
  split at h
  · rename_i hj
    rw [if_pos hj] at e
    cases h; cases e
    rw [itA_av]; exact dull_none _ _
  · cases h
theorem c_ItemEdges (l : List Ask4) (hl : l.length ≤ 281474976710656) : Contract Try.prog 12 [asks4 l] (.bool true) := by
  refine contract_of (C := cf 157 [0, 2, 3, 4, 5, 6, 7, 8, 9, 10, 11, 12, 13, 14, 15, 16, 17, 20, 23, 26, 28, 37, 58, 82, 85, 108, 116, 130] (fun _ => [])) (cf_ok _ _ _) (fn := Try.f12) Try.func12 (by kernel_rfl) rfl (by kernel_rfl) (by simp [cf]) (plain1 (asks4_plain l)) (by decide) (noCell (by kernel_rfl)) ?_
  simp only [go_sem, ↓reduceIte, Nat.reduceLT, Nat.reduceLeDiff, Nat.reduceAdd, Nat.reduceSub, Nat.reduceMul, Nat.reduceEqDiff, Nat.reduceBEq, Nat.reduceMod, Nat.reduceDiv, Int.reduceToNat, reduceCtorEq, Int.reduceLT, Int.reduceLE, Int.reduceGT, Int.reduceGE, Int.reduceAdd, Int.reduceSub, Int.reduceMul, Int.reduceNeg, Int.reduceEq, Int.reduceNe, Int.reduceBNe, Int.reduceBEq, Int.reduceDiv, asks4]
  refine ex_iter [0, 3] (fun n : Nat => ⟨[(0, .sl false 4 (l.map Ask4.av)), (3, .int .i64 n)], []⟩) (fun n => 54 ≤ n ∧ n ≤ 58) (fun n => 58 - n) 54 ?_ ?_ ?_
  · simp only [ASt.keep, consIf, keepL, keepV, AV.isBot, List.contains_cons, List.contains_nil, Nat.reduceBEq, Bool.or_false, Bool.false_or, Bool.or_true, Bool.true_or, beq_self_eq_true, Bool.false_eq_true, ↓reduceIte, if_false, if_true]
    rfl
  · exact ⟨Nat.le_refl _, by omega⟩
  · rintro r n ⟨h1, h2⟩ next
    simp only [go_sem, ↓reduceIte, Nat.reduceLT, Nat.reduceLeDiff, Nat.reduceAdd, Nat.reduceSub, Nat.reduceMul, Nat.reduceEqDiff, Nat.reduceBEq, Nat.reduceMod, Nat.reduceDiv, Int.reduceToNat, reduceCtorEq, Int.reduceLT, Int.reduceLE, Int.reduceGT, Int.reduceGE, Int.reduceAdd, Int.reduceSub, Int.reduceMul, Int.reduceNeg, Int.reduceEq, Int.reduceNe, Int.reduceBNe, Int.reduceBEq, Int.reduceDiv]
    refine ex_br (fun hc => ?_) (fun hc => ?_)
    · have hn : n ≤ 57 := by simp at hc; omega
      obtain ⟨t1, t2, t3⟩ := edge_text n h1 hn
      obtain ⟨g1, g2, g3⟩ := edge_list n h1 hn
      have c1 := c_BytesI (zeroT n) t1
      have c2 := c_BytesI (listT n) g1
      rw [t2, if_pos rfl] at c1
      rw [g2, if_pos rfl] at c2
      simp only [go_sem, ↓reduceIte, Nat.reduceLT, Nat.reduceLeDiff, Nat.reduceAdd, Nat.reduceSub, Nat.reduceMul, Nat.reduceEqDiff, Nat.reduceBEq, Nat.reduceMod, Nat.reduceDiv, Int.reduceToNat, reduceCtorEq, Int.reduceLT, Int.reduceLE, Int.reduceGT, Int.reduceGE, Int.reduceAdd, Int.reduceSub, Int.reduceMul, Int.reduceNeg, Int.reduceEq, Int.reduceNe, Int.reduceBNe, Int.reduceBEq, Int.reduceDiv, Int.toNat_natCast]
      repeat with_reducible refine And.intro (by first | omega | (simp only [List.length_cons, List.length_append, List.length_nil, List.length_map, List.length_take, List.length_drop, List.length_set]; omega)) ?_
      simp only [go_sem, ↓reduceIte, Nat.reduceLT, Nat.reduceLeDiff, Nat.reduceAdd, Nat.reduceSub, Nat.reduceMul, Nat.reduceEqDiff, Nat.reduceBEq, Nat.reduceMod, Nat.reduceDiv, Int.reduceToNat, reduceCtorEq, Int.reduceLT, Int.reduceLE, Int.reduceGT, Int.reduceGE, Int.reduceAdd, Int.reduceSub, Int.reduceMul, Int.reduceNeg, Int.reduceEq, Int.reduceNe, Int.reduceBNe, Int.reduceBEq, Int.reduceDiv, asU8_zeros, Int.toNat_natCast]
      refine ex_iter [0, 3, 4, 5, 6] (fun i : Nat => ⟨[(0, .sl false 4 (l.map Ask4.av)), (3, .int .i64 n), (4, .str (List.replicate n 0)), (5, .var 5 0), (6, .int .i64 i)], [(5, [.bool true, .str [], repI 3 i (List.replicate i (.agg [.bool false, .str [97], .ext nilP]))])]⟩) (fun i => i ≤ n) (fun i => n - i) 0 ?_ ?_ ?_
      · simp only [ASt.keep, consIf, keepL, keepV, AV.isBot, List.contains_cons, List.contains_nil, Nat.reduceBEq, Bool.or_false, Bool.false_or, Bool.or_true, Bool.true_or, beq_self_eq_true, Bool.false_eq_true, ↓reduceIte, if_false, if_true]
        rfl
      · exact Nat.zero_le _
      · intro m i hi next2
        simp only [go_sem, ↓reduceIte, Nat.reduceLT, Nat.reduceLeDiff, Nat.reduceAdd, Nat.reduceSub, Nat.reduceMul, Nat.reduceEqDiff, Nat.reduceBEq, Nat.reduceMod, Nat.reduceDiv, Int.reduceToNat, reduceCtorEq, Int.reduceLT, Int.reduceLE, Int.reduceGT, Int.reduceGE, Int.reduceAdd, Int.reduceSub, Int.reduceMul, Int.reduceNeg, Int.reduceEq, Int.reduceNe, Int.reduceBNe, Int.reduceBEq, Int.reduceDiv]
        refine ex_br (fun hd => ?_) (fun hd => ?_)
        · have hin : i < n := by simpa using hd
          cases i with
          | zero =>
            simp only [go_sem, ↓reduceIte, Nat.reduceLT, Nat.reduceLeDiff, Nat.reduceAdd, Nat.reduceSub, Nat.reduceMul, Nat.reduceEqDiff, Nat.reduceBEq, Nat.reduceMod, Nat.reduceDiv, Int.reduceToNat, reduceCtorEq, Int.reduceLT, Int.reduceLE, Int.reduceGT, Int.reduceGE, Int.reduceAdd, Int.reduceSub, Int.reduceMul, Int.reduceNeg, Int.reduceEq, Int.reduceNe, Int.reduceBNe, Int.reduceBEq, Int.reduceDiv, repI]
            repeat with_reducible refine And.intro (by first | omega | (simp only [List.length_cons, List.length_append, List.length_nil, List.length_map, List.length_take, List.length_drop, List.length_set]; omega)) ?_
            refine next2 (0 + 1) _ (by omega) (by omega) ?_
            rw [← wi64_nat 0 (by omega)]
            simp only [ASt.keep, consIf, keepL, keepV, AV.isBot, List.contains_cons, List.contains_nil, Nat.reduceBEq, Bool.or_false, Bool.false_or, Bool.or_true, Bool.true_or, beq_self_eq_true, Bool.false_eq_true, ↓reduceIte, if_false, if_true]
            rfl
          | succ i =>
            simp only [go_sem, ↓reduceIte, Nat.reduceLT, Nat.reduceLeDiff, Nat.reduceAdd, Nat.reduceSub, Nat.reduceMul, Nat.reduceEqDiff, Nat.reduceBEq, Nat.reduceMod, Nat.reduceDiv, Int.reduceToNat, reduceCtorEq, Int.reduceLT, Int.reduceLE, Int.reduceGT, Int.reduceGE, Int.reduceAdd, Int.reduceSub, Int.reduceMul, Int.reduceNeg, Int.reduceEq, Int.reduceNe, Int.reduceBNe, Int.reduceBEq, Int.reduceDiv, repI, List.length_replicate]
            repeat with_reducible refine And.intro (by first | omega | (simp only [List.length_cons, List.length_append, List.length_nil, List.length_map, List.length_take, List.length_drop, List.length_set]; omega)) ?_
            refine next2 (i + 1 + 1) _ (by omega) (by omega) ?_
            rw [← wi64_nat (i + 1) (by omega)]
            simp only [ASt.keep, consIf, keepL, keepV, AV.isBot, List.contains_cons, List.contains_nil, Nat.reduceBEq, Bool.or_false, Bool.false_or, Bool.or_true, Bool.true_or, beq_self_eq_true, Bool.false_eq_true, ↓reduceIte, if_false, if_true]
            simp only [repI, List.replicate_succ, List.cons_append]
            rw [← List.replicate_succ']
            rfl
        · have hie : i = n := by simp at hd; omega
          subst hie
          have hrep := repI_pos (sz := 3) (i := i) (es := List.replicate i (.agg [.bool false, .str [97], .ext nilP])) (by omega)
          have hd2 : decide ((i : Int) < (i : Int)) = false := decide_eq_false (by omega)
          rw [hd2, hrep]
          simp only [go_sem, ↓reduceIte, Nat.reduceLT, Nat.reduceLeDiff, Nat.reduceAdd, Nat.reduceSub, Nat.reduceMul, Nat.reduceEqDiff, Nat.reduceBEq, Nat.reduceMod, Nat.reduceDiv, Int.reduceToNat, reduceCtorEq, Int.reduceLT, Int.reduceLE, Int.reduceGT, Int.reduceGE, Int.reduceAdd, Int.reduceSub, Int.reduceMul, Int.reduceNeg, Int.reduceEq, Int.reduceNe, Int.reduceBNe, Int.reduceBEq, Int.reduceDiv]
          refine ex_call_dull (.cons (dull_none _ _) .nil) (by exact c1) ?_
          simp only [go_sem, ↓reduceIte, Nat.reduceLT, Nat.reduceLeDiff, Nat.reduceAdd, Nat.reduceSub, Nat.reduceMul, Nat.reduceEqDiff, Nat.reduceBEq, Nat.reduceMod, Nat.reduceDiv, Int.reduceToNat, reduceCtorEq, Int.reduceLT, Int.reduceLE, Int.reduceGT, Int.reduceGE, Int.reduceAdd, Int.reduceSub, Int.reduceMul, Int.reduceNeg, Int.reduceEq, Int.reduceNe, Int.reduceBNe, Int.reduceBEq, Int.reduceDiv]
          refine ex_call_dull (.cons (list_dull i) .nil) (by exact c2) ?_
          rcases Decidable.em (i ≤ 55) with h55 | h55
          · have e55 : decide ((i : Int) > 55) = false := decide_eq_false (by omega)
            rw [if_pos h55] at t3 g3
            have w1 : IntKind.i64.wrap ((i : Int) + 1) = ((i + 1 : Nat) : Int) := wi64_nat i (by omega)
            have q1 : (((bytesI (zeroT i)).length : Int) != ((i + 1 : Nat) : Int)) = false := by rw [t3]; simp
            have q2 : (((bytesI (listT i)).length : Int) != ((i + 1 : Nat) : Int)) = false := by rw [g3]; simp
            simp only [go_sem, ↓reduceIte, Nat.reduceLT, Nat.reduceLeDiff, Nat.reduceAdd, Nat.reduceSub, Nat.reduceMul, Nat.reduceEqDiff, Nat.reduceBEq, Nat.reduceMod, Nat.reduceDiv, Int.reduceToNat, reduceCtorEq, Int.reduceLT, Int.reduceLE, Int.reduceGT, Int.reduceGE, Int.reduceAdd, Int.reduceSub, Int.reduceMul, Int.reduceNeg, Int.reduceEq, Int.reduceNe, Int.reduceBNe, Int.reduceBEq, Int.reduceDiv, e55]
            refine ex_call (by exact c_law4_num _) ?_
            simp only [go_sem, ↓reduceIte, Nat.reduceLT, Nat.reduceLeDiff, Nat.reduceAdd, Nat.reduceSub, Nat.reduceMul, Nat.reduceEqDiff, Nat.reduceBEq, Nat.reduceMod, Nat.reduceDiv, Int.reduceToNat, reduceCtorEq, Int.reduceLT, Int.reduceLE, Int.reduceGT, Int.reduceGE, Int.reduceAdd, Int.reduceSub, Int.reduceMul, Int.reduceNeg, Int.reduceEq, Int.reduceNe, Int.reduceBNe, Int.reduceBEq, Int.reduceDiv]
            refine ex_call (by exact c_law4_num _) ?_
            simp only [go_sem, ↓reduceIte, Nat.reduceLT, Nat.reduceLeDiff, Nat.reduceAdd, Nat.reduceSub, Nat.reduceMul, Nat.reduceEqDiff, Nat.reduceBEq, Nat.reduceMod, Nat.reduceDiv, Int.reduceToNat, reduceCtorEq, Int.reduceLT, Int.reduceLE, Int.reduceGT, Int.reduceGE, Int.reduceAdd, Int.reduceSub, Int.reduceMul, Int.reduceNeg, Int.reduceEq, Int.reduceNe, Int.reduceBNe, Int.reduceBEq, Int.reduceDiv, w1, q1, q2]
            refine next (i + 1) _ ⟨by omega, by omega⟩ (by omega) ?_
            simp only [ASt.keep, consIf, keepL, keepV, AV.isBot, List.contains_cons, List.contains_nil, Nat.reduceBEq, Bool.or_false, Bool.false_or, Bool.or_true, Bool.true_or, beq_self_eq_true, Bool.false_eq_true, ↓reduceIte, if_false, if_true]
          · have e55 : decide ((i : Int) > 55) = true := decide_eq_true (by omega)
            rw [if_neg h55] at t3 g3
            have w2 : IntKind.i64.wrap ((i : Int) + 2) = ((i + 2 : Nat) : Int) := by rw [wi64 (by omega) (by omega)]; omega
            have w1 : IntKind.i64.wrap ((i : Int) + 1) = ((i + 1 : Nat) : Int) := wi64_nat i (by omega)
            have q1 : (((bytesI (zeroT i)).length : Int) != ((i + 2 : Nat) : Int)) = false := by rw [t3]; simp
            have q2 : (((bytesI (listT i)).length : Int) != ((i + 2 : Nat) : Int)) = false := by rw [g3]; simp
            simp only [go_sem, ↓reduceIte, Nat.reduceLT, Nat.reduceLeDiff, Nat.reduceAdd, Nat.reduceSub, Nat.reduceMul, Nat.reduceEqDiff, Nat.reduceBEq, Nat.reduceMod, Nat.reduceDiv, Int.reduceToNat, reduceCtorEq, Int.reduceLT, Int.reduceLE, Int.reduceGT, Int.reduceGE, Int.reduceAdd, Int.reduceSub, Int.reduceMul, Int.reduceNeg, Int.reduceEq, Int.reduceNe, Int.reduceBNe, Int.reduceBEq, Int.reduceDiv, e55]
            refine ex_call (by exact c_law4_num _) ?_
            simp only [go_sem, ↓reduceIte, Nat.reduceLT, Nat.reduceLeDiff, Nat.reduceAdd, Nat.reduceSub, Nat.reduceMul, Nat.reduceEqDiff, Nat.reduceBEq, Nat.reduceMod, Nat.reduceDiv, Int.reduceToNat, reduceCtorEq, Int.reduceLT, Int.reduceLE, Int.reduceGT, Int.reduceGE, Int.reduceAdd, Int.reduceSub, Int.reduceMul, Int.reduceNeg, Int.reduceEq, Int.reduceNe, Int.reduceBNe, Int.reduceBEq, Int.reduceDiv]
            refine ex_call (by exact c_law4_num _) ?_
            simp only [go_sem, ↓reduceIte, Nat.reduceLT, Nat.reduceLeDiff, Nat.reduceAdd, Nat.reduceSub, Nat.reduceMul, Nat.reduceEqDiff, Nat.reduceBEq, Nat.reduceMod, Nat.reduceDiv, Int.reduceToNat, reduceCtorEq, Int.reduceLT, Int.reduceLE, Int.reduceGT, Int.reduceGE, Int.reduceAdd, Int.reduceSub, Int.reduceMul, Int.reduceNeg, Int.reduceEq, Int.reduceNe, Int.reduceBNe, Int.reduceBEq, Int.reduceDiv, w2, w1, q1, q2]
            refine next (i + 1) _ ⟨by omega, by omega⟩ (by omega) ?_
            simp only [ASt.keep, consIf, keepL, keepV, AV.isBot, List.contains_cons, List.contains_nil, Nat.reduceBEq, Bool.or_false, Bool.false_or, Bool.or_true, Bool.true_or, beq_self_eq_true, Bool.false_eq_true, ↓reduceIte, if_false, if_true]
    · simp only [go_sem, ↓reduceIte, Nat.reduceLT, Nat.reduceLeDiff, Nat.reduceAdd, Nat.reduceSub, Nat.reduceMul, Nat.reduceEqDiff, Nat.reduceBEq, Nat.reduceMod, Nat.reduceDiv, Int.reduceToNat, reduceCtorEq, Int.reduceLT, Int.reduceLE, Int.reduceGT, Int.reduceGE, Int.reduceAdd, Int.reduceSub, Int.reduceMul, Int.reduceNeg, Int.reduceEq, Int.reduceNe, Int.reduceBNe, Int.reduceBEq, Int.reduceDiv]
      refine ex_iter [0, 12, 13] (fun k : Nat => ⟨[(0, .sl false 4 (l.map Ask4.av)), (12, .var 12 0), (13, .int .i64 (k + 1 : Nat))], [(12, [.bool true, .str [], nestR k])]⟩) (fun k => k ≤ 17) (fun k => 17 - k) 0 ?_ ?_ ?_
      · simp only [ASt.keep, consIf, keepL, keepV, AV.isBot, List.contains_cons, List.contains_nil, Nat.reduceBEq, Bool.or_false, Bool.false_or, Bool.or_true, Bool.true_or, beq_self_eq_true, Bool.false_eq_true, ↓reduceIte, if_false, if_true]
        rfl
      · exact Nat.zero_le _
      · intro m k hk next2
        simp only [go_sem, ↓reduceIte, Nat.reduceLT, Nat.reduceLeDiff, Nat.reduceAdd, Nat.reduceSub, Nat.reduceMul, Nat.reduceEqDiff, Nat.reduceBEq, Nat.reduceMod, Nat.reduceDiv, Int.reduceToNat, reduceCtorEq, Int.reduceLT, Int.reduceLE, Int.reduceGT, Int.reduceGE, Int.reduceAdd, Int.reduceSub, Int.reduceMul, Int.reduceNeg, Int.reduceEq, Int.reduceNe, Int.reduceBNe, Int.reduceBEq, Int.reduceDiv]
        refine ex_br (fun hd => ?_) (fun hd => ?_)
        · have hk16 : k ≤ 16 := by simp at hd; omega
          obtain ⟨n1, n2, n3⟩ := nest_all ⟨k, by omega⟩
          simp only at n1 n2 n3
          have cN := c_BytesI (nestI k) n1
          have w1 : IntKind.i64.wrap (((k + 1 : Nat) : Int) + 1) = ((k + 1 + 1 : Nat) : Int) := wi64_nat (k + 1) (by omega)
          have nd := nest_dull k
          rw [n2] at cN
          rcases Decidable.em (k < 16) with hlt | hlt
          · rw [decide_eq_true hlt, if_pos rfl] at cN
            have n3 := n3 hlt
            have e1 : decide (((k + 1 : Nat) : Int) ≤ 16) = true := decide_eq_true (by omega)
            have q1 : (((bytesI (nestI k)).length : Int) != ((k + 1 : Nat) : Int)) = false := by rw [n3]; simp
            have fold : next2 = next2 := rfl
            cases k with
            | zero =>
              simp only [go_sem, ↓reduceIte, Nat.reduceLT, Nat.reduceLeDiff, Nat.reduceAdd, Nat.reduceSub, Nat.reduceMul, Nat.reduceEqDiff, Nat.reduceBEq, Nat.reduceMod, Nat.reduceDiv, Int.reduceToNat, reduceCtorEq, Int.reduceLT, Int.reduceLE, Int.reduceGT, Int.reduceGE, Int.reduceAdd, Int.reduceSub, Int.reduceMul, Int.reduceNeg, Int.reduceEq, Int.reduceNe, Int.reduceBNe, Int.reduceBEq, Int.reduceDiv, nestR]
              refine ex_call_dull (.cons nd .nil) (by exact cN) ?_
              simp only [go_sem, ↓reduceIte, Nat.reduceLT, Nat.reduceLeDiff, Nat.reduceAdd, Nat.reduceSub, Nat.reduceMul, Nat.reduceEqDiff, Nat.reduceBEq, Nat.reduceMod, Nat.reduceDiv, Int.reduceToNat, reduceCtorEq, Int.reduceLT, Int.reduceLE, Int.reduceGT, Int.reduceGE, Int.reduceAdd, Int.reduceSub, Int.reduceMul, Int.reduceNeg, Int.reduceEq, Int.reduceNe, Int.reduceBNe, Int.reduceBEq, Int.reduceDiv]
              refine ex_call (by exact c_law4_num _) ?_
              simp only [go_sem, ↓reduceIte, Nat.reduceLT, Nat.reduceLeDiff, Nat.reduceAdd, Nat.reduceSub, Nat.reduceMul, Nat.reduceEqDiff, Nat.reduceBEq, Nat.reduceMod, Nat.reduceDiv, Int.reduceToNat, reduceCtorEq, Int.reduceLT, Int.reduceLE, Int.reduceGT, Int.reduceGE, Int.reduceAdd, Int.reduceSub, Int.reduceMul, Int.reduceNeg, Int.reduceEq, Int.reduceNe, Int.reduceBNe, Int.reduceBEq, Int.reduceDiv, e1, q1]
              refine next2 (0 + 1) _ (by omega) (by omega) ?_
              rw [← w1]
              simp only [ASt.keep, consIf, keepL, keepV, AV.isBot, List.contains_cons, List.contains_nil, Nat.reduceBEq, Bool.or_false, Bool.false_or, Bool.or_true, Bool.true_or, beq_self_eq_true, Bool.false_eq_true, ↓reduceIte, if_false, if_true]
              rfl
            | succ k =>
              simp only [go_sem, ↓reduceIte, Nat.reduceLT, Nat.reduceLeDiff, Nat.reduceAdd, Nat.reduceSub, Nat.reduceMul, Nat.reduceEqDiff, Nat.reduceBEq, Nat.reduceMod, Nat.reduceDiv, Int.reduceToNat, reduceCtorEq, Int.reduceLT, Int.reduceLE, Int.reduceGT, Int.reduceGE, Int.reduceAdd, Int.reduceSub, Int.reduceMul, Int.reduceNeg, Int.reduceEq, Int.reduceNe, Int.reduceBNe, Int.reduceBEq, Int.reduceDiv, nestR]
              refine ex_call_dull (.cons nd .nil) (by exact cN) ?_
              simp only [go_sem, ↓reduceIte, Nat.reduceLT, Nat.reduceLeDiff, Nat.reduceAdd, Nat.reduceSub, Nat.reduceMul, Nat.reduceEqDiff, Nat.reduceBEq, Nat.reduceMod, Nat.reduceDiv, Int.reduceToNat, reduceCtorEq, Int.reduceLT, Int.reduceLE, Int.reduceGT, Int.reduceGE, Int.reduceAdd, Int.reduceSub, Int.reduceMul, Int.reduceNeg, Int.reduceEq, Int.reduceNe, Int.reduceBNe, Int.reduceBEq, Int.reduceDiv]
              refine ex_call (by exact c_law4_num _) ?_
              simp only [go_sem, ↓reduceIte, Nat.reduceLT, Nat.reduceLeDiff, Nat.reduceAdd, Nat.reduceSub, Nat.reduceMul, Nat.reduceEqDiff, Nat.reduceBEq, Nat.reduceMod, Nat.reduceDiv, Int.reduceToNat, reduceCtorEq, Int.reduceLT, Int.reduceLE, Int.reduceGT, Int.reduceGE, Int.reduceAdd, Int.reduceSub, Int.reduceMul, Int.reduceNeg, Int.reduceEq, Int.reduceNe, Int.reduceBNe, Int.reduceBEq, Int.reduceDiv, e1, q1]
              refine next2 (k + 1 + 1) _ (by omega) (by omega) ?_
              rw [← w1]
              simp only [ASt.keep, consIf, keepL, keepV, AV.isBot, List.contains_cons, List.contains_nil, Nat.reduceBEq, Bool.or_false, Bool.false_or, Bool.or_true, Bool.true_or, beq_self_eq_true, Bool.false_eq_true, ↓reduceIte, if_false, if_true]
              rfl
          · rw [decide_eq_false hlt, if_neg (by simp)] at cN
            obtain rfl : k = 16 := by omega
            have e1 : decide (((16 + 1 : Nat) : Int) ≤ 16) = false := by decide
            simp only [go_sem, ↓reduceIte, Nat.reduceLT, Nat.reduceLeDiff, Nat.reduceAdd, Nat.reduceSub, Nat.reduceMul, Nat.reduceEqDiff, Nat.reduceBEq, Nat.reduceMod, Nat.reduceDiv, Int.reduceToNat, reduceCtorEq, Int.reduceLT, Int.reduceLE, Int.reduceGT, Int.reduceGE, Int.reduceAdd, Int.reduceSub, Int.reduceMul, Int.reduceNeg, Int.reduceEq, Int.reduceNe, Int.reduceBNe, Int.reduceBEq, Int.reduceDiv, nestR]
            refine ex_call_dull (.cons nd .nil) (by exact cN) ?_
            simp only [go_sem, ↓reduceIte, Nat.reduceLT, Nat.reduceLeDiff, Nat.reduceAdd, Nat.reduceSub, Nat.reduceMul, Nat.reduceEqDiff, Nat.reduceBEq, Nat.reduceMod, Nat.reduceDiv, Int.reduceToNat, reduceCtorEq, Int.reduceLT, Int.reduceLE, Int.reduceGT, Int.reduceGE, Int.reduceAdd, Int.reduceSub, Int.reduceMul, Int.reduceNeg, Int.reduceEq, Int.reduceNe, Int.reduceBNe, Int.reduceBEq, Int.reduceDiv]
            refine ex_call (by exact c_law4_num _) ?_
            simp only [go_sem, ↓reduceIte, Nat.reduceLT, Nat.reduceLeDiff, Nat.reduceAdd, Nat.reduceSub, Nat.reduceMul, Nat.reduceEqDiff, Nat.reduceBEq, Nat.reduceMod, Nat.reduceDiv, Int.reduceToNat, reduceCtorEq, Int.reduceLT, Int.reduceLE, Int.reduceGT, Int.reduceGE, Int.reduceAdd, Int.reduceSub, Int.reduceMul, Int.reduceNeg, Int.reduceEq, Int.reduceNe, Int.reduceBNe, Int.reduceBEq, Int.reduceDiv, e1]
            refine next2 (16 + 1) _ (by omega) (by omega) ?_
            simp only [ASt.keep, consIf, keepL, keepV, AV.isBot, List.contains_cons, List.contains_nil, Nat.reduceBEq, Bool.or_false, Bool.false_or, Bool.or_true, Bool.true_or, beq_self_eq_true, Bool.false_eq_true, ↓reduceIte, if_false, if_true]
            rfl
        · simp only [go_sem, ↓reduceIte, Nat.reduceLT, Nat.reduceLeDiff, Nat.reduceAdd, Nat.reduceSub, Nat.reduceMul, Nat.reduceEqDiff, Nat.reduceBEq, Nat.reduceMod, Nat.reduceDiv, Int.reduceToNat, reduceCtorEq, Int.reduceLT, Int.reduceLE, Int.reduceGT, Int.reduceGE, Int.reduceAdd, Int.reduceSub, Int.reduceMul, Int.reduceNeg, Int.reduceEq, Int.reduceNe, Int.reduceBNe, Int.reduceBEq, Int.reduceDiv]
          refine ex_loop [0, 16, 17] 7 ?_
          have b0 := c_item_Take [129, 97] (by decide)
          have b1 := c_item_Take [184, 5, 97, 98, 99, 100, 101] (by decide)
          have b2 := c_item_Take [185, 0, 64] (by decide)
          have b3 := c_item_Take [248, 1, 97] (by decide)
          have b4 := c_item_Take [193, 129] (by decide)
          have b5 := c_item_Take [187, 255, 255, 255, 255] (by decide)
          have b6 := c_item_Take [] (by decide)
          have b7 := c_item_Take [185, 0] (by decide)
          rw [bad0] at b0
          rw [bad1] at b1
          rw [bad2] at b2
          rw [bad3] at b3
          rw [bad4] at b4
          rw [bad5] at b5
          rw [cut0] at b6
          rw [cut1] at b7
          unfold resP at b0 b1 b2 b3 b4 b5 b6 b7
          simp only [go_sem, ↓reduceIte, Nat.reduceLT, Nat.reduceLeDiff, Nat.reduceAdd, Nat.reduceSub, Nat.reduceMul, Nat.reduceEqDiff, Nat.reduceBEq, Nat.reduceMod, Nat.reduceDiv, Int.reduceToNat, reduceCtorEq, Int.reduceLT, Int.reduceLE, Int.reduceGT, Int.reduceGE, Int.reduceAdd, Int.reduceSub, Int.reduceMul, Int.reduceNeg, Int.reduceEq, Int.reduceNe, Int.reduceBNe, Int.reduceBEq, Int.reduceDiv, ex_round, Int.cast_ofNat_Int, wi64]
          refine ex_call (by exact b0) ?_
          simp only [go_sem, ↓reduceIte, Nat.reduceLT, Nat.reduceLeDiff, Nat.reduceAdd, Nat.reduceSub, Nat.reduceMul, Nat.reduceEqDiff, Nat.reduceBEq, Nat.reduceMod, Nat.reduceDiv, Int.reduceToNat, reduceCtorEq, Int.reduceLT, Int.reduceLE, Int.reduceGT, Int.reduceGE, Int.reduceAdd, Int.reduceSub, Int.reduceMul, Int.reduceNeg, Int.reduceEq, Int.reduceNe, Int.reduceBNe, Int.reduceBEq, Int.reduceDiv, Int.cast_ofNat_Int]
          refine ex_call (by exact c_law4_num _) ?_
          simp only [go_sem, ↓reduceIte, Nat.reduceLT, Nat.reduceLeDiff, Nat.reduceAdd, Nat.reduceSub, Nat.reduceMul, Nat.reduceEqDiff, Nat.reduceBEq, Nat.reduceMod, Nat.reduceDiv, Int.reduceToNat, reduceCtorEq, Int.reduceLT, Int.reduceLE, Int.reduceGT, Int.reduceGE, Int.reduceAdd, Int.reduceSub, Int.reduceMul, Int.reduceNeg, Int.reduceEq, Int.reduceNe, Int.reduceBNe, Int.reduceBEq, Int.reduceDiv, ex_round, Int.cast_ofNat_Int, wi64]
          refine ex_call (by exact b1) ?_
          simp only [go_sem, ↓reduceIte, Nat.reduceLT, Nat.reduceLeDiff, Nat.reduceAdd, Nat.reduceSub, Nat.reduceMul, Nat.reduceEqDiff, Nat.reduceBEq, Nat.reduceMod, Nat.reduceDiv, Int.reduceToNat, reduceCtorEq, Int.reduceLT, Int.reduceLE, Int.reduceGT, Int.reduceGE, Int.reduceAdd, Int.reduceSub, Int.reduceMul, Int.reduceNeg, Int.reduceEq, Int.reduceNe, Int.reduceBNe, Int.reduceBEq, Int.reduceDiv, Int.cast_ofNat_Int]
          refine ex_call (by exact c_law4_num _) ?_
          simp only [go_sem, ↓reduceIte, Nat.reduceLT, Nat.reduceLeDiff, Nat.reduceAdd, Nat.reduceSub, Nat.reduceMul, Nat.reduceEqDiff, Nat.reduceBEq, Nat.reduceMod, Nat.reduceDiv, Int.reduceToNat, reduceCtorEq, Int.reduceLT, Int.reduceLE, Int.reduceGT, Int.reduceGE, Int.reduceAdd, Int.reduceSub, Int.reduceMul, Int.reduceNeg, Int.reduceEq, Int.reduceNe, Int.reduceBNe, Int.reduceBEq, Int.reduceDiv, ex_round, Int.cast_ofNat_Int, wi64]
          refine ex_call (by exact b2) ?_
          simp only [go_sem, ↓reduceIte, Nat.reduceLT, Nat.reduceLeDiff, Nat.reduceAdd, Nat.reduceSub, Nat.reduceMul, Nat.reduceEqDiff, Nat.reduceBEq, Nat.reduceMod, Nat.reduceDiv, Int.reduceToNat, reduceCtorEq, Int.reduceLT, Int.reduceLE, Int.reduceGT, Int.reduceGE, Int.reduceAdd, Int.reduceSub, Int.reduceMul, Int.reduceNeg, Int.reduceEq, Int.reduceNe, Int.reduceBNe, Int.reduceBEq, Int.reduceDiv, Int.cast_ofNat_Int]
          refine ex_call (by exact c_law4_num _) ?_
          simp only [go_sem, ↓reduceIte, Nat.reduceLT, Nat.reduceLeDiff, Nat.reduceAdd, Nat.reduceSub, Nat.reduceMul, Nat.reduceEqDiff, Nat.reduceBEq, Nat.reduceMod, Nat.reduceDiv, Int.reduceToNat, reduceCtorEq, Int.reduceLT, Int.reduceLE, Int.reduceGT, Int.reduceGE, Int.reduceAdd, Int.reduceSub, Int.reduceMul, Int.reduceNeg, Int.reduceEq, Int.reduceNe, Int.reduceBNe, Int.reduceBEq, Int.reduceDiv, ex_round, Int.cast_ofNat_Int, wi64]
          refine ex_call (by exact b3) ?_
          simp only [go_sem, ↓reduceIte, Nat.reduceLT, Nat.reduceLeDiff, Nat.reduceAdd, Nat.reduceSub, Nat.reduceMul, Nat.reduceEqDiff, Nat.reduceBEq, Nat.reduceMod, Nat.reduceDiv, Int.reduceToNat, reduceCtorEq, Int.reduceLT, Int.reduceLE, Int.reduceGT, Int.reduceGE, Int.reduceAdd, Int.reduceSub, Int.reduceMul, Int.reduceNeg, Int.reduceEq, Int.reduceNe, Int.reduceBNe, Int.reduceBEq, Int.reduceDiv, Int.cast_ofNat_Int]
          refine ex_call (by exact c_law4_num _) ?_
          simp only [go_sem, ↓reduceIte, Nat.reduceLT, Nat.reduceLeDiff, Nat.reduceAdd, Nat.reduceSub, Nat.reduceMul, Nat.reduceEqDiff, Nat.reduceBEq, Nat.reduceMod, Nat.reduceDiv, Int.reduceToNat, reduceCtorEq, Int.reduceLT, Int.reduceLE, Int.reduceGT, Int.reduceGE, Int.reduceAdd, Int.reduceSub, Int.reduceMul, Int.reduceNeg, Int.reduceEq, Int.reduceNe, Int.reduceBNe, Int.reduceBEq, Int.reduceDiv, ex_round, Int.cast_ofNat_Int, wi64]
          refine ex_call (by exact b4) ?_
          simp only [go_sem, ↓reduceIte, Nat.reduceLT, Nat.reduceLeDiff, Nat.reduceAdd, Nat.reduceSub, Nat.reduceMul, Nat.reduceEqDiff, Nat.reduceBEq, Nat.reduceMod, Nat.reduceDiv, Int.reduceToNat, reduceCtorEq, Int.reduceLT, Int.reduceLE, Int.reduceGT, Int.reduceGE, Int.reduceAdd, Int.reduceSub, Int.reduceMul, Int.reduceNeg, Int.reduceEq, Int.reduceNe, Int.reduceBNe, Int.reduceBEq, Int.reduceDiv, Int.cast_ofNat_Int]
          refine ex_call (by exact c_law4_num _) ?_
          simp only [go_sem, ↓reduceIte, Nat.reduceLT, Nat.reduceLeDiff, Nat.reduceAdd, Nat.reduceSub, Nat.reduceMul, Nat.reduceEqDiff, Nat.reduceBEq, Nat.reduceMod, Nat.reduceDiv, Int.reduceToNat, reduceCtorEq, Int.reduceLT, Int.reduceLE, Int.reduceGT, Int.reduceGE, Int.reduceAdd, Int.reduceSub, Int.reduceMul, Int.reduceNeg, Int.reduceEq, Int.reduceNe, Int.reduceBNe, Int.reduceBEq, Int.reduceDiv, ex_round, Int.cast_ofNat_Int, wi64]
          refine ex_call (by exact b5) ?_
          simp only [go_sem, ↓reduceIte, Nat.reduceLT, Nat.reduceLeDiff, Nat.reduceAdd, Nat.reduceSub, Nat.reduceMul, Nat.reduceEqDiff, Nat.reduceBEq, Nat.reduceMod, Nat.reduceDiv, Int.reduceToNat, reduceCtorEq, Int.reduceLT, Int.reduceLE, Int.reduceGT, Int.reduceGE, Int.reduceAdd, Int.reduceSub, Int.reduceMul, Int.reduceNeg, Int.reduceEq, Int.reduceNe, Int.reduceBNe, Int.reduceBEq, Int.reduceDiv, Int.cast_ofNat_Int]
          refine ex_call (by exact c_law4_num _) ?_
          simp only [go_sem, ↓reduceIte, Nat.reduceLT, Nat.reduceLeDiff, Nat.reduceAdd, Nat.reduceSub, Nat.reduceMul, Nat.reduceEqDiff, Nat.reduceBEq, Nat.reduceMod, Nat.reduceDiv, Int.reduceToNat, reduceCtorEq, Int.reduceLT, Int.reduceLE, Int.reduceGT, Int.reduceGE, Int.reduceAdd, Int.reduceSub, Int.reduceMul, Int.reduceNeg, Int.reduceEq, Int.reduceNe, Int.reduceBNe, Int.reduceBEq, Int.reduceDiv, ex_round, Int.cast_ofNat_Int, wi64]
          refine ex_call (by exact b6) ?_
          simp only [go_sem, ↓reduceIte, Nat.reduceLT, Nat.reduceLeDiff, Nat.reduceAdd, Nat.reduceSub, Nat.reduceMul, Nat.reduceEqDiff, Nat.reduceBEq, Nat.reduceMod, Nat.reduceDiv, Int.reduceToNat, reduceCtorEq, Int.reduceLT, Int.reduceLE, Int.reduceGT, Int.reduceGE, Int.reduceAdd, Int.reduceSub, Int.reduceMul, Int.reduceNeg, Int.reduceEq, Int.reduceNe, Int.reduceBNe, Int.reduceBEq, Int.reduceDiv, Int.cast_ofNat_Int]
          refine ex_call (by exact b7) ?_
          simp only [go_sem, ↓reduceIte, Nat.reduceLT, Nat.reduceLeDiff, Nat.reduceAdd, Nat.reduceSub, Nat.reduceMul, Nat.reduceEqDiff, Nat.reduceBEq, Nat.reduceMod, Nat.reduceDiv, Int.reduceToNat, reduceCtorEq, Int.reduceLT, Int.reduceLE, Int.reduceGT, Int.reduceGE, Int.reduceAdd, Int.reduceSub, Int.reduceMul, Int.reduceNeg, Int.reduceEq, Int.reduceNe, Int.reduceBNe, Int.reduceBEq, Int.reduceDiv, Int.cast_ofNat_Int]
          refine ex_call (by exact c_law4_num _) ?_
          simp only [go_sem, ↓reduceIte, Nat.reduceLT, Nat.reduceLeDiff, Nat.reduceAdd, Nat.reduceSub, Nat.reduceMul, Nat.reduceEqDiff, Nat.reduceBEq, Nat.reduceMod, Nat.reduceDiv, Int.reduceToNat, reduceCtorEq, Int.reduceLT, Int.reduceLE, Int.reduceGT, Int.reduceGE, Int.reduceAdd, Int.reduceSub, Int.reduceMul, Int.reduceNeg, Int.reduceEq, Int.reduceNe, Int.reduceBNe, Int.reduceBEq, Int.reduceDiv, Int.cast_ofNat_Int]
          refine ex_call (by exact c_law4_num _) ?_
          have hlz : decide ((l.length : Int) ≥ 0) = true := decide_eq_true (by omega)
          simp only [go_sem, ↓reduceIte, Nat.reduceLT, Nat.reduceLeDiff, Nat.reduceAdd, Nat.reduceSub, Nat.reduceMul, Nat.reduceEqDiff, Nat.reduceBEq, Nat.reduceMod, Nat.reduceDiv, Int.reduceToNat, reduceCtorEq, Int.reduceLT, Int.reduceLE, Int.reduceGT, Int.reduceGE, Int.reduceAdd, Int.reduceSub, Int.reduceMul, Int.reduceNeg, Int.reduceEq, Int.reduceNe, Int.reduceBNe, Int.reduceBEq, Int.reduceDiv, Int.cast_ofNat_Int, List.length_map, hlz]
          refine ex_call (by exact c_law4_wakes) ?_
          simp only [go_sem, ↓reduceIte, Nat.reduceLT, Nat.reduceLeDiff, Nat.reduceAdd, Nat.reduceSub, Nat.reduceMul, Nat.reduceEqDiff, Nat.reduceBEq, Nat.reduceMod, Nat.reduceDiv, Int.reduceToNat, reduceCtorEq, Int.reduceLT, Int.reduceLE, Int.reduceGT, Int.reduceGE, Int.reduceAdd, Int.reduceSub, Int.reduceMul, Int.reduceNeg, Int.reduceEq, Int.reduceNe, Int.reduceBNe, Int.reduceBEq, Int.reduceDiv]
          refine finOne ?_ (fun _ e => by cases e)
          show resOf _ _ [.tmp 2] = _
          simp only [go_sem, ↓reduceIte, Nat.reduceLT, Nat.reduceLeDiff, Nat.reduceAdd, Nat.reduceSub, Nat.reduceMul, Nat.reduceEqDiff, Nat.reduceBEq, Nat.reduceMod, Nat.reduceDiv, Int.reduceToNat, reduceCtorEq, Int.reduceLT, Int.reduceLE, Int.reduceGT, Int.reduceGE, Int.reduceAdd, Int.reduceSub, Int.reduceMul, Int.reduceNeg, Int.reduceEq, Int.reduceNe, Int.reduceBNe, Int.reduceBEq, Int.reduceDiv]
theorem ty_asks4w {x : AV} (h : Ty ti 50 x) : ∃ l : List Ask4, x = asks4 l ∧ l.length ≤ 281474976710656 := by
  obtain ⟨es, rfl, hs, hes⟩ := ty_slice (by rw [ti50]) h
  have each : ∀ y ∈ es, ∃ a : Ask4, y = a.av := fun y hy => by
    obtain ⟨xs, rfl, hl, hf⟩ := ty_struct rfl (hes y hy)
    have hl : xs.length = 2 := hl
    match xs, hl with
    | [p, q], _ =>
      have hp := hf 0 _ _ _ _ rfl rfl
      have hq := hf 1 _ _ _ _ rfl rfl
      obtain ⟨it, rfl⟩ := ty_item _ hp (Nat.le_refl _)
      obtain ⟨s, rfl, _⟩ := ty_str rfl hq
      refine ⟨⟨it, s⟩, ?_⟩
      simp only [List.flatMap_cons, List.flatMap_nil, ItemD.av_eq, AV.flat, Ask4.av, askAv]
      rfl
  obtain ⟨l, rfl⟩ := map_of_all (f := Ask4.av) es each
  refine ⟨l, rfl, ?_⟩
  rw [List.length_map] at hs
  unfold reachBytes at hs
  omega
theorem law_ItemEdges (x : AV) (h : Ty ti 50 x) : Contract Try.prog 12 [x] (.bool true) := by
  obtain ⟨l, rfl, hl⟩ := ty_asks4w h
  exact c_ItemEdges l hl
end Go.Proofs.Ytjfnmlheehbojaa.VA
end
