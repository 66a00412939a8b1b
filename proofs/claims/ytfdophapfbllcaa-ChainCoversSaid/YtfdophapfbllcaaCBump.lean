/- Pairs, fees, and what pays for a place. -/
import Derived.Test.YtfdophapfbllcaaCTx2
namespace Go.Proofs.Ytfdophapfbllcaa.VA
set_option maxRecDepth 10000
set_option linter.unusedSimpArgs false
set_option linter.unusedVariables false
set_option maxHeartbeats 8000000

def pairOf (a b : TxD) : Bool := validTx a && validTx b && (a.frm == b.frm) && (a.nonce == b.nonce)
def twice (n m : Nat) : Bool := decide (n + n < U) && decide (n + n ≤ m)
def mayOf (a b : TxD) : Int := if pairOf a b = true then (if (twice a.bcap b.bcap && (twice a.cap b.cap && twice a.tip b.tip)) = true then 0 else 11) else 1
theorem cmp_lt {n m : Nat} : decide (cmpOf n m < 0) = decide (n < m) := by
  unfold cmpOf
  rw [Bool.eq_iff_iff]
  simp only [decide_eq_true_eq]
  split <;> (try split) <;> omega
end Go.Proofs.Ytfdophapfbllcaa.VA
