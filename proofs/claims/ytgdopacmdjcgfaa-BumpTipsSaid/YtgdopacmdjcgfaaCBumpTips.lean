/- BumpTips: the law answers true, whatever it is asked. -/
import Derived.Test.YtgdopacmdjcgfaaCWayL
import Derived.Test.YtgdopacmdjcgfaaCWayT
namespace Go.Proofs.Ytgdopacmdjcgfaa.VA
theorem law_BumpTips (x : AV) (h : Ty ti 22 x) : Contract Try.prog 3 [x] (.bool true) := by
  obtain ⟨l, rfl, hl, hok⟩ := ty_asks15 h
  exact c_BumpTips l hl hok
end Go.Proofs.Ytgdopacmdjcgfaa.VA
