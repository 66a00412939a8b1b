/- Small laws that the contracts' proofs share. -/
import Derived.Test.YtjfnmlheehbojaaVaTy
import Derived.Test.YtjfnmlheehbojaaVaEval
namespace Go.Proofs.Ytjfnmlheehbojaa.VA

theorem wi64 {x : Int} (h1 : -9223372036854775808 ≤ x) (h2 : x ≤ 9223372036854775807) : IntKind.i64.wrap x = x := by
  rw [IntKind.wrap_i64]; omega
theorem wi64_nat (n : Nat) (h : n ≤ 9223372036854775806) : IntKind.i64.wrap ((n : Int) + 1) = ((n + 1 : Nat) : Int) := by
  rw [wi64 (by omega) (by omega)]; rfl
theorem plain1 {x : AV} (h : Plain x) : ∀ y, y ∈ [x] → Plain y := by
  intro y hy; rw [List.mem_singleton] at hy; rw [hy]; exact h
theorem plain2 {a b : AV} (h : Plain a) (k : Plain b) : ∀ y, y ∈ [a, b] → Plain y := by
  intro y hy; simp only [List.mem_cons, List.not_mem_nil, or_false] at hy; rcases hy with rfl | rfl <;> assumption
theorem plain3 {a b c : AV} (h : Plain a) (k : Plain b) (l : Plain c) : ∀ y, y ∈ [a, b, c] → Plain y := by
  intro y hy; simp only [List.mem_cons, List.not_mem_nil, or_false] at hy; rcases hy with rfl | rfl | rfl <;> assumption
def noCellB : List ResultVar → Bool
  | [] => true
  | .tmp _ :: r => noCellB r
  | .cell _ _ :: _ => false
theorem noCell {C : Cfg} {rs : List ResultVar} (h : noCellB rs = true) : ∀ t T, ResultVar.cell t T ∈ rs → (C.ti T).kind.known = true := by
  intro t T hm
  exfalso
  induction rs with
  | nil => cases hm
  | cons r rs ih =>
    cases r with
    | tmp t' =>
      rcases List.mem_cons.1 hm with e | e
      · cases e
      · exact ih h e
    | cell t' T' => cases h
theorem finOne {C : Cfg} {σ : ASt} {rs : List ResultVar} {r : AV} (h : resOf C σ rs = some r) (hr : ∀ vs, r ≠ .tup vs) : BodyPost C rs r .ret σ := by
  show ResFin (resOf C σ rs) r
  rw [h]; exact .one hr hr (.dull (.refl r))
theorem finsRefl : ∀ rs : List AV, Fins rs rs
  | [] => .nil
  | x :: xs => .cons (.dull (.refl x)) (finsRefl xs)
theorem finTup {C : Cfg} {σ : ASt} {rs : List ResultVar} {vs : List AV} (h : resOf C σ rs = some (.tup vs)) : BodyPost C rs (.tup vs) .ret σ := by
  show ResFin (resOf C σ rs) _
  rw [h]; exact .tup (finsRefl vs)
end Go.Proofs.Ytjfnmlheehbojaa.VA
