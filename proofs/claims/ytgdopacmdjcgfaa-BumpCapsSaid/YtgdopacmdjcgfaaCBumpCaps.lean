/- BumpCaps: the law answers true, whatever it is asked. -/
import Derived.Test.YtgdopacmdjcgfaaCWayL
import Derived.Test.YtgdopacmdjcgfaaCWayU
namespace Go.Proofs.Ytgdopacmdjcgfaa.VA
theorem law_BumpCaps (x : AV) (h : Ty ti 22 x) : Contract Try.prog 4 [x] (.bool true) := by
  obtain ⟨l, rfl, hl, hok⟩ := ty_asks15 h
  exact c_BumpCaps l hl hok
end Go.Proofs.Ytgdopacmdjcgfaa.VA
