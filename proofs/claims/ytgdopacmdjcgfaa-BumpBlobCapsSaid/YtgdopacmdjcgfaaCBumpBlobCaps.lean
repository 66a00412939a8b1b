/- BumpBlobCaps: the law answers true, whatever it is asked. -/
import Derived.Test.YtgdopacmdjcgfaaCWayL
import Derived.Test.YtgdopacmdjcgfaaCWayV
namespace Go.Proofs.Ytgdopacmdjcgfaa.VA
theorem law_BumpBlobCaps (x : AV) (h : Ty ti 22 x) : Contract Try.prog 5 [x] (.bool true) := by
  obtain ⟨l, rfl, hl, hok⟩ := ty_asks15 h
  exact c_BumpBlobCaps l hl hok
end Go.Proofs.Ytgdopacmdjcgfaa.VA
