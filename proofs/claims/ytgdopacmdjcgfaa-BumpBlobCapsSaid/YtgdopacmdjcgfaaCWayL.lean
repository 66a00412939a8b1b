/- The questions of the laws BumpTips, BumpCaps, BumpBlobCaps, as data. -/
import Derived.Test.YtgdopacmdjcgfaaCTyTx
import Derived.Test.YtgdopacmdjcgfaaCWayD
namespace Go.Proofs.Ytgdopacmdjcgfaa.VA
set_option linter.unusedVariables false
set_option linter.unusedSimpArgs false
theorem ty_ask15 {x : AV} (h : Ty ti 70 x) : ∃ q : Ask15, x = q.av ∧ q.ok := by
  obtain ⟨xs, rfl, hn, hall⟩ := ty_struct (fs := [(0, 21, 41), (21, 21, 41)]) (by rw [ti70]) h
  match xs, hn with
  | [x0, x1], _ =>
    obtain ⟨a, rfl, ha⟩ := ty_tx (hall 0 _ _ _ x0 rfl rfl)
    obtain ⟨b, rfl, hb⟩ := ty_tx (hall 1 _ _ _ x1 rfl rfl)
    exact ⟨⟨a, b⟩, rfl, ha, hb⟩
theorem ty_asks15 {x : AV} (h : Ty ti 22 x) : ∃ l : List Ask15, x = asks15 l ∧ l.length ≤ 9223372036854775806 ∧ ∀ a ∈ l, a.ok := by
  obtain ⟨es, rfl, hs, hall⟩ := ty_slice (e := 70) (esz := 42) (eb := 400) (by rw [ti22]) h
  obtain ⟨l, rfl, hl⟩ := ty_map (f := Ask15.av) (fun y hy => ty_ask15 hy) es hall
  exact ⟨l, rfl, by rw [List.length_map] at hs; unfold reachBytes at hs; omega, hl⟩
end Go.Proofs.Ytgdopacmdjcgfaa.VA
