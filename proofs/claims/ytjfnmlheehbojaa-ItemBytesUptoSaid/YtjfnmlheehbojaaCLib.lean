/- Small laws that the contracts' proofs share. -/
import Derived.Test.YtjfnmlheehbojaaVaSet
import Derived.Test.YtjfnmlheehbojaaVaEval2
import Derived.Test.YtjfnmlheehbojaaVaData
namespace Go.Proofs.Ytjfnmlheehbojaa.VA

theorem wi64 {x : Int} (h1 : -9223372036854775808 ≤ x) (h2 : x ≤ 9223372036854775807) : IntKind.i64.wrap x = x := by
  rw [IntKind.wrap_i64]; omega
theorem wi64_nat (n : Nat) (h : n ≤ 9223372036854775806) : IntKind.i64.wrap ((n : Int) + 1) = ((n + 1 : Nat) : Int) := by
  rw [wi64 (by omega) (by omega)]; rfl
theorem plain1 {x : AV} (h : Plain x) : ∀ y, y ∈ [x] → Plain y := by
  intro y hy; rw [List.mem_singleton] at hy; rw [hy]; exact h
theorem plain2 {a b : AV} (h : Plain a) (k : Plain b) : ∀ y, y ∈ [a, b] → Plain y := by
  intro y hy; simp only [List.mem_cons, List.not_mem_nil, or_false] at hy; rcases hy with rfl | rfl <;> assumption
theorem plain3 {a b c : AV} (h : Plain a) (k : Plain b) (l : Plain c) : ∀ y, y ∈ [a, b, c] → Plain y := by
  intro y hy; simp only [List.mem_cons, List.not_mem_nil, or_false] at hy; rcases hy with rfl | rfl | rfl <;> assumption
def noCellB : List ResultVar → Bool
  | [] => true
  | .tmp _ :: r => noCellB r
  | .cell _ _ :: _ => false
theorem noCell {C : Cfg} {rs : List ResultVar} (h : noCellB rs = true) : ∀ t T, ResultVar.cell t T ∈ rs → (C.ti T).kind.known = true := by
  intro t T hm
  exfalso
  induction rs with
  | nil => cases hm
  | cons r rs ih =>
    cases r with
    | tmp t' =>
      rcases List.mem_cons.1 hm with e | e
      · cases e
      · exact ih h e
    | cell t' T' => cases h
def cellsB (ti : TypeId → TI) : List ResultVar → Bool
  | [] => true
  | .tmp _ :: r => cellsB ti r
  | .cell _ T :: r => (ti T).kind.known && cellsB ti r
theorem cellsOk {C : Cfg} {rs : List ResultVar} (h : cellsB C.ti rs = true) : ∀ t T, ResultVar.cell t T ∈ rs → (C.ti T).kind.known = true := by
  intro t T hm
  induction rs with
  | nil => cases hm
  | cons r rs ih =>
    cases r with
    | tmp t' =>
      rcases List.mem_cons.1 hm with e | e
      · cases e
      · exact ih h e
    | cell t' T' =>
      simp only [cellsB, Bool.and_eq_true] at h
      rcases List.mem_cons.1 hm with e | e
      · cases e; exact h.1
      · exact ih h.2 e
theorem finOne {C : Cfg} {σ : ASt} {rs : List ResultVar} {r : AV} (h : resOf C σ rs = some r) (hr : ∀ vs, r ≠ .tup vs) : BodyPost C rs r .ret σ := by
  show ResFin (resOf C σ rs) r
  rw [h]; exact .one hr hr (.dull (.refl r))
theorem finsRefl : ∀ rs : List AV, Fins rs rs
  | [] => .nil
  | x :: xs => .cons (.dull (.refl x)) (finsRefl xs)
theorem finTup {C : Cfg} {σ : ASt} {rs : List ResultVar} {vs : List AV} (h : resOf C σ rs = some (.tup vs)) : BodyPost C rs (.tup vs) .ret σ := by
  show ResFin (resOf C σ rs) _
  rw [h]; exact .tup (finsRefl vs)

theorem dsl (fr : Bool) (sz : Nat) (es : List AV) : Dull (.sl fr sz es) (.sl false sz es) := .sl fr sz es es rfl fun j x y h k => by
  rw [h] at k; cases k; exact .refl x
theorem take_snoc {α β : Type} (f : α → β) {l : List α} {i : Nat} {x : α} (h : l[i]? = some x) : (l.take i).map f ++ [f x] = (l.take (i + 1)).map f := by
  rw [List.take_add_one, h, List.map_append]; rfl
/-! What is known of a value of a type. -/
theorem ty_int {t : TypeId} {k : IntKind} (ht : (ti t).kind = .int k) {x : AV} (h : Ty ti t x) : ∃ n : Int, x = .int k n ∧ (Lit.int k n).wf = true := by
  cases h with
  | int n hk hw => rw [ht] at hk; cases hk; exact ⟨n, rfl, hw⟩
  | _ => simp_all
theorem ty_bool {t : TypeId} (ht : (ti t).kind = .bool) {x : AV} (h : Ty ti t x) : ∃ b : Bool, x = .bool b := by
  cases h with
  | bool b hk => exact ⟨b, rfl⟩
  | _ => simp_all
theorem ty_str {t : TypeId} (ht : (ti t).kind = .str) {x : AV} (h : Ty ti t x) : ∃ s : List UInt8, x = .str s ∧ s.length ≤ reachBytes := by
  cases h with
  | str s _ hs => exact ⟨s, rfl, hs⟩
  | _ => simp_all
theorem ty_slice {t e : TypeId} {esz eb : Nat} (ht : (ti t).kind = .slice e esz eb) {x : AV} (h : Ty ti t x) : ∃ es : List AV, x = .sl false esz es ∧ es.length * eb ≤ reachBytes ∧ ∀ y ∈ es, Ty ti e y := by
  cases h with
  | slice es hk hs hall => rw [ht] at hk; cases hk; exact ⟨es, rfl, hs, hall⟩
  | _ => simp_all
theorem ty_arr {t e : TypeId} {n esz : Nat} (ht : (ti t).kind = .arr n e esz) {x : AV} (h : Ty ti t x) : ∃ xs : List AV, x = .agg (xs.flatMap AV.flat) ∧ xs.length = n ∧ ∀ y ∈ xs, Ty ti e y := by
  cases h with
  | arr xs hk hn hall => rw [ht] at hk; cases hk; exact ⟨xs, rfl, hn, hall⟩
  | _ => simp_all
theorem ty_struct {t : TypeId} {fs : List (Nat × Nat × TypeId)} (ht : (ti t).kind = .struct fs) {x : AV} (h : Ty ti t x) :
    ∃ xs : List AV, x = .agg (xs.flatMap AV.flat) ∧ xs.length = fs.length ∧ ∀ (j : Nat) off sz ft y, fs[j]? = some (off, sz, ft) → xs[j]? = some y → Ty ti ft y := by
  cases h with
  | struct xs hk hn hall => rw [ht] at hk; cases hk; exact ⟨xs, rfl, hn, hall⟩
  | _ => simp_all
theorem ty_map {α : Type} {e : TypeId} {f : α → AV} {p : α → Prop} (h : ∀ y, Ty ti e y → ∃ a, y = f a ∧ p a) : ∀ es : List AV, (∀ y ∈ es, Ty ti e y) → ∃ l : List α, es = l.map f ∧ ∀ a ∈ l, p a
  | [], _ => ⟨[], rfl, fun a h => by cases h⟩
  | y :: es, hall => by
    obtain ⟨l, rfl, hl⟩ := ty_map h es fun x hx => hall x (List.mem_cons_of_mem _ hx)
    obtain ⟨a, rfl, ha⟩ := h y (hall y (by simp))
    exact ⟨a :: l, rfl, fun b hb => by
      rcases List.mem_cons.1 hb with rfl | hb
      · exact ha
      · exact hl b hb⟩

/-! Texts and marks in rows. -/
def strs (l : List (List UInt8)) : AV := .sl false 1 (l.map AV.str)
theorem strs_plain (l : List (List UInt8)) : Plain (strs l) := .sl 1 _ fun c hc => by
  obtain ⟨s, _, rfl⟩ := List.mem_map.1 hc
  exact .str s
def ints (k : IntKind) (l : List Int) : AV := .sl false 1 (l.map (AV.int k))
theorem ints_plain (k : IntKind) (l : List Int) : Plain (ints k l) := .sl 1 _ fun c hc => by
  obtain ⟨s, _, rfl⟩ := List.mem_map.1 hc
  exact .int k s
theorem ty_strs {t e : TypeId} {eb : Nat} (ht : (ti t).kind = .slice e 1 eb) (he : (ti e).kind = .str) {x : AV} (h : Ty ti t x) : ∃ l : List (List UInt8), x = strs l ∧ l.length * eb ≤ reachBytes ∧ ∀ s ∈ l, s.length ≤ reachBytes := by
  obtain ⟨es, rfl, hs, hall⟩ := ty_slice ht h
  obtain ⟨l, rfl, hl⟩ := ty_map (f := AV.str) (fun y hy => ty_str he hy) es hall
  exact ⟨l, rfl, by simpa using hs, hl⟩
theorem ty_ints {t e : TypeId} {eb : Nat} {k : IntKind} (ht : (ti t).kind = .slice e 1 eb) (he : (ti e).kind = .int k) {x : AV} (h : Ty ti t x) : ∃ l : List Int, x = ints k l ∧ l.length * eb ≤ reachBytes ∧ ∀ n ∈ l, (Lit.int k n).wf = true := by
  obtain ⟨es, rfl, hs, hall⟩ := ty_slice ht h
  obtain ⟨l, rfl, hl⟩ := ty_map (f := AV.int k) (fun y hy => ty_int he hy) es hall
  exact ⟨l, rfl, by simpa using hs, hl⟩
theorem dulls_get : ∀ {xs ys : List AV}, Dulls xs ys → xs.length = ys.length ∧ ∀ (j : Nat) x y, xs[j]? = some x → ys[j]? = some y → Dull x y
  | _, _, .nil => ⟨rfl, fun j x y h _ => by cases h⟩
  | _, _, .cons h t => by
    obtain ⟨e, f⟩ := dulls_get t
    refine ⟨by simp [e], fun j x y hx hy => ?_⟩
    cases j with
    | zero => simp only [List.getElem?_cons_zero, Option.some.injEq] at hx hy; subst hx; subst hy; exact h
    | succ j => simp only [List.getElem?_cons_succ] at hx hy; exact f j x y hx hy
theorem dulls_agg {xs ys : List AV} (h : Dulls xs ys) : Dull (.agg xs) (.agg ys) := .agg xs ys (dulls_get h).1 (dulls_get h).2
theorem finOneD {C : Cfg} {σ : ASt} {rs : List ResultVar} {r' r : AV} (h : resOf C σ rs = some r') (hd : Dull r' r) (hr' : ∀ vs, r' ≠ .tup vs) (hr : ∀ vs, r ≠ .tup vs) : BodyPost C rs r .ret σ := by
  show ResFin (resOf C σ rs) r
  rw [h]; exact .one hr' hr (.dull hd)
theorem finTupD {C : Cfg} {σ : ASt} {rs : List ResultVar} {vs' vs : List AV} (h : resOf C σ rs = some (.tup vs')) (hd : Fins vs' vs) : BodyPost C rs (.tup vs) .ret σ := by
  show ResFin (resOf C σ rs) _
  rw [h]; exact .tup hd
end Go.Proofs.Ytjfnmlheehbojaa.VA
