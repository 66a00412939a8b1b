/- The questions of the laws of layer 6, as data. -/
import Derived.Test.YtjfnmlheehbojaaCBlob
namespace Go.Proofs.Ytjfnmlheehbojaa.VA
set_option linter.unusedVariables false
set_option linter.unusedSimpArgs false

structure Ask6 where
  h : List Int
  b : List (List UInt8)
  n : Int
def Ask6.av (a : Ask6) : AV := .agg [ints .u64 a.h, strs a.b, .int .i64 a.n]
theorem Ask6.plain (a : Ask6) : Plain a.av := .agg _ fun c hc => by
  simp only [List.mem_cons, List.not_mem_nil, or_false] at hc
  rcases hc with rfl | rfl | rfl
  · exact ints_plain _ _
  · exact strs_plain _
  · exact .int _ _
/-- How great the data of such a question may be. -/
def Ask6.ok (a : Ask6) : Prop := a.h.length * 8 ≤ reachBytes ∧ a.b.length * 16 ≤ reachBytes ∧ (∀ s ∈ a.b, s.length ≤ reachBytes) ∧ (∀ n ∈ a.h, (Lit.int .u64 n).wf = true) ∧ (Lit.int .i64 a.n).wf = true
def asks6 (l : List Ask6) : AV := .sl false 3 (l.map Ask6.av)
theorem asks6_plain (l : List Ask6) : Plain (asks6 l) := .sl 3 _ fun c hc => by
  obtain ⟨s, _, rfl⟩ := List.mem_map.1 hc
  exact s.plain
theorem ty_ask6 {x : AV} (h : Ty ti 33 x) : ∃ a : Ask6, x = a.av ∧ a.ok := by
  obtain ⟨xs, rfl, hn, hall⟩ := ty_struct (fs := [(0, 1, 30), (1, 1, 31), (2, 1, 3)]) (by rw [ti33]) h
  match xs, hn with
  | [x0, x1, x2], _ =>
    obtain ⟨l0, rfl, a0, b0⟩ := ty_ints (e := 34) (eb := 8) (k := .u64) (by rw [ti30]) (by rw [ti34]) (hall 0 _ _ _ x0 rfl rfl)
    obtain ⟨l1, rfl, a1, b1⟩ := ty_strs (e := 9) (eb := 16) (by rw [ti31]) (by rw [ti9]) (hall 1 _ _ _ x1 rfl rfl)
    obtain ⟨n, rfl, b2⟩ := ty_int (k := .i64) (by rw [ti3]) (hall 2 _ _ _ x2 rfl rfl)
    exact ⟨⟨l0, l1, n⟩, rfl, a0, a1, b1, b0, b2⟩
theorem ty_asks6 {x : AV} (h : Ty ti 29 x) : ∃ l : List Ask6, x = asks6 l ∧ l.length * 56 ≤ reachBytes ∧ ∀ a ∈ l, a.ok := by
  obtain ⟨es, rfl, hs, hall⟩ := ty_slice (e := 33) (esz := 3) (eb := 56) (by rw [ti29]) h
  obtain ⟨l, rfl, hl⟩ := ty_map (f := Ask6.av) (fun y hy => ty_ask6 hy) es hall
  exact ⟨l, rfl, by simpa using hs, hl⟩

end Go.Proofs.Ytjfnmlheehbojaa.VA
