/- The law's function 'way': it answers true, whatever is asked. -/
import Derived.Test.YtgdopacmdjcgfaaCWay
namespace Go.Proofs.Ytgdopacmdjcgfaa.VA
set_option maxRecDepth 10000
set_option linter.unusedSimpArgs false
set_option linter.unusedVariables false
set_option maxHeartbeats 16000000

structure Ask15 where
  a : TxD
  b : TxD
def Ask15.av (q : Ask15) : AV := pairAv q.a q.b
structure Ask15.ok (q : Ask15) : Prop where
  a : q.a.ok
  b : q.b.ok
def asks15 (l : List Ask15) : AV := .sl false 42 (l.map Ask15.av)
theorem asks15_plain (l : List Ask15) : Plain (asks15 l) := .sl 42 _ fun c hc => by
  obtain ⟨s, _, rfl⟩ := List.mem_map.1 hc
  exact pairAv_plain _ _
theorem shift_m1 {v : Nat} (h : shiftOk v (-1) = true) : 1 ≤ v ∧ shift v (-1) = v - 1 := by
  unfold shiftOk at h
  rw [if_pos (by decide)] at h
  have h := of_decide_eq_true h
  exact ⟨h, by unfold shift; rw [if_pos (by decide), if_pos h]⟩
theorem shift_0 {v : Nat} (h : shiftOk v 0 = true) : shift v 0 = v := by
  unfold shiftOk at h
  rw [if_neg (by decide)] at h
  have h := of_decide_eq_true h
  unfold shift
  rw [if_neg (by decide), if_pos h]
  rfl
theorem shift_1 {v : Nat} (h : shiftOk v 1 = true) : v + 1 < U ∧ shift v 1 = v + 1 := by
  unfold shiftOk at h
  rw [if_neg (by decide)] at h
  have h := of_decide_eq_true h
  refine ⟨h, ?_⟩
  unfold shift
  rw [if_neg (by decide), if_pos h]
  rfl
theorem twice_of {n m : Nat} (h : n + n < U) (k : n + n ≤ m) : twice n m = true := by
  unfold twice; rw [decide_eq_true h, decide_eq_true k]; rfl
theorem twice_not {n m : Nat} (k : m < n + n) : twice n m = false := by
  unfold twice; rw [decide_eq_false (show ¬ n + n ≤ m by omega), Bool.and_false]

end Go.Proofs.Ytgdopacmdjcgfaa.VA
