/- A table of types is checked against the program's. -/
import Derived.Test.YtjfnmlheehbojaaVaFin
namespace Go.Proofs.Ytjfnmlheehbojaa.VA

def zeroB : AV → Value → Bool
  | .int k n, .int k' n' => decide (k = k') && decide (n = n')
  | .bool b, .bool b' => b == b'
  | .str [], .string s => s.size == 0
  | .own _ _ [], .slice none 0 0 => true
  | .nilf, .nilFunc => true
  | _, _ => false
theorem zeroB_ok {x : AV} {v : Value} (h : zeroB x v = true) : zeroIs x v := by
  unfold zeroB at h
  split at h
  · simp only [Bool.and_eq_true, decide_eq_true_eq] at h; obtain ⟨rfl, rfl⟩ := h; rfl
  · simp only [beq_iff_eq] at h; subst h; rfl
  · rename_i s
    have hs : s.size = 0 := by simpa using h
    have : s = ⟨#[]⟩ := by
      obtain ⟨d⟩ := s
      have : d = #[] := Array.eq_empty_of_size_eq_zero hs
      rw [this]
    subst this
    rfl
  · exact ⟨rfl, rfl⟩
  · rfl
  · cases h

def sliceB (e e' esz eb : Nat) : Option TypeInfo → Bool
  | some i => decide (e' = e) && (decide (i.size = esz) && (decide (i.bytes = eb) && (decide (0 < eb) && (decide (0 < esz) && (match i.zero with | some z => decide (z.cells.size = esz) | none => false)))))
  | none => false
def arrB (n n' e e' esz : Nat) : Option TypeInfo → Bool
  | some i => decide (n' = n) && (decide (e' = e) && (decide (i.size = esz) && decide (0 < esz)))
  | none => false
def fieldB (off sz ft : Nat) : Option Field → Option TypeInfo → Bool
  | some f, some i => decide (f.offset = off) && (decide (f.type = ft) && (decide (i.size = sz) && decide (0 < sz)))
  | _, _ => false
def fieldsB (P : Program) (A : Array Field) : Nat → List (Nat × Nat × TypeId) → Bool
  | _, [] => true
  | j, (off, sz, ft) :: r => fieldB off sz ft A[j]? (P.info? ft) && fieldsB P A (j + 1) r
def fitKB (P : Program) : TK → Option TypeDesc → Bool
  | .int k, some (.int k') => decide (k' = k)
  | .bool, some .bool => true
  | .str, some .string => true
  | .func, some (.func _ _ _) => true
  | .slice e esz eb, some (.slice e') => sliceB e e' esz eb (P.info? e)
  | .arr n e esz, some (.array n' e') => arrB n n' e e' esz (P.info? e)
  | .struct fs, some (.struct A) => decide (A.size = fs.length) && fieldsB P A 0 fs
  | _, _ => false
theorem fieldsB_ok {P : Program} {A : Array Field} : ∀ (fs : List (Nat × Nat × TypeId)) (k : Nat), fieldsB P A k fs = true → ∀ (j off sz : Nat) ft, fs[j]? = some (off, sz, ft) →
    ∃ f i, A[k + j]? = some f ∧ f.offset = off ∧ f.type = ft ∧ P.info? ft = some i ∧ i.size = sz ∧ 0 < sz
  | [], k, h, j, off, sz, ft, hj => by simp at hj
  | (o, s, t) :: r, k, h, j, off, sz, ft, hj => by
    simp only [fieldsB, Bool.and_eq_true] at h
    cases j with
    | zero =>
      obtain ⟨rfl, rfl, rfl⟩ : o = off ∧ s = sz ∧ t = ft := by simpa using hj
      have h1 := h.1
      cases hA : A[k]? with
      | none => rw [hA] at h1; cases P.info? t <;> cases h1
      | some f =>
        rw [hA] at h1
        cases hi : P.info? t with
        | none => rw [hi] at h1; cases h1
        | some i =>
          rw [hi] at h1
          simp only [fieldB, Bool.and_eq_true, decide_eq_true_eq] at h1
          exact ⟨f, i, rfl, h1.1, h1.2.1, rfl, h1.2.2.1, h1.2.2.2⟩
    | succ j =>
      obtain ⟨f, i, h1, h2⟩ := fieldsB_ok r (k + 1) h.2 j off sz ft hj
      exact ⟨f, i, by rw [← h1]; congr 1; omega, h2⟩
theorem fitKB_ok {P : Program} {T : TypeId} {k : TK} (h : fitKB P k (P.underlying T) = true) : FitK P T k := by
  generalize hu : P.underlying T = d at h
  unfold fitKB at h
  split at h
  · simp only [decide_eq_true_eq] at h; subst h; exact hu
  · exact hu
  · exact hu
  · exact ⟨_, _, _, hu⟩
  · rename_i e esz eb e'
    cases hi : P.info? e with
    | none => rw [hi] at h; cases h
    | some i =>
      rw [hi] at h
      simp only [sliceB, Bool.and_eq_true, decide_eq_true_eq] at h
      obtain ⟨rfl, h2, h3, h4, h5, h6⟩ := h
      cases hz : i.zero with
      | none => rw [hz] at h6; cases h6
      | some z =>
        rw [hz] at h6
        simp only [decide_eq_true_eq] at h6
        exact ⟨hu, i, z, hi, h2, h3, h4, hz, h6, h5⟩
  · rename_i n e esz n' e'
    cases hi : P.info? e with
    | none => rw [hi] at h; cases h
    | some i =>
      rw [hi] at h
      simp only [arrB, Bool.and_eq_true, decide_eq_true_eq] at h
      obtain ⟨rfl, rfl, h2, h3⟩ := h
      exact ⟨hu, i, hi, h2, h3⟩
  · rename_i fs A
    simp only [Bool.and_eq_true, decide_eq_true_eq] at h
    refine ⟨A, hu, h.1, fun j off sz ft hj => ?_⟩
    obtain ⟨f, i, h1, h2⟩ := fieldsB_ok fs 0 h.2 j off sz ft hj
    exact ⟨f, i, by rw [← h1]; congr 1; omega, h2⟩
  · cases h

def zerosB (z : Value) : Nat → List AV → Bool
  | _, [] => true
  | j, x :: r => (match z.cells[j]? with | some v => zeroB x v | none => false) && zerosB z (j + 1) r
theorem zerosB_ok {z : Value} : ∀ (xs : List AV) (k : Nat), zerosB z k xs = true → ∀ (j : Nat) x v, xs[j]? = some x → z.cells[k + j]? = some v → zeroIs x v
  | [], k, h, j, x, v, hx, hv => by simp at hx
  | y :: r, k, h, j, x, v, hx, hv => by
    simp only [zerosB, Bool.and_eq_true] at h
    cases j with
    | zero =>
      cases hx
      have h1 := h.1
      rw [Nat.add_zero] at hv
      rw [hv] at h1
      exact zeroB_ok h1
    | succ j =>
      exact zerosB_ok r (k + 1) h.2 j x v hx (by rw [← hv]; congr 1; omega)
def aggB : Value → Bool
  | .agg _ => true
  | _ => false
def infoB (t : TI) (i : TypeInfo) : Option Value → Bool
  | some z => decide (i.size = t.size) && (decide (z.cells.size = t.size) && (decide (t.zero.length = t.size) && (zerosB z 0 t.zero && (if t.kind.isAgg = true then aggB z else decide (t.size = 1) && z.oneCell'))))
  | none => false
def fitB (P : Program) (t : TI) (T : TypeId) : Bool :=
  fitKB P t.kind (P.underlying T) && (match P.info? T with | some i => infoB t i i.zero | none => false)
theorem fitB_ok {P : Program} {ti : TypeId → TI} {T : TypeId} (h : fitB P (ti T) T = true) : Fit P ti T := by
  simp only [fitB, Bool.and_eq_true] at h
  refine ⟨fitKB_ok h.1, ?_⟩
  have h2 := h.2
  cases hi : P.info? T with
  | none => rw [hi] at h2; cases h2
  | some i =>
    rw [hi] at h2
    cases hz : i.zero with
    | none => simp only [hz] at h2; cases h2
    | some z =>
      simp only [hz, infoB, Bool.and_eq_true, decide_eq_true_eq] at h2
      obtain ⟨h3, h4, h5, h6, h7⟩ := h2
      refine ⟨i, z, rfl, h3, hz, h4, h5, fun j x v hx hv => zerosB_ok _ 0 h6 j x v hx (by rw [Nat.zero_add]; exact hv), fun ha => ?_, fun ha => ?_⟩
      · rw [if_pos ha] at h7
        cases z <;> first | exact ⟨_, rfl⟩ | cases h7
      · rw [if_neg (by rw [ha]; simp)] at h7
        simp only [Bool.and_eq_true, decide_eq_true_eq] at h7
        exact h7

def tiOf (table : List TI) (t : TypeId) : TI := (table[t]?).getD ⟨0, [], .other⟩
def fitAll (P : Program) (table : List TI) : Bool := (List.range table.length).all fun t => !(tiOf table t).kind.known || fitB P (tiOf table t) t
theorem fitAll_ok {P : Program} {table : List TI} (h : fitAll P table = true) (T : TypeId) (hk : (tiOf table T).kind.known = true) : Fit P (tiOf table) T := by
  by_cases hT : T < table.length
  · simp only [fitAll, List.all_eq_true, List.mem_range] at h
    have := h T hT
    rw [hk] at this
    exact fitB_ok (by simpa using this)
  · have : tiOf table T = ⟨0, [], .other⟩ := by
      unfold tiOf
      rw [List.getElem?_eq_none (Nat.le_of_not_lt hT)]
      rfl
    rw [this] at hk
    cases hk

end Go.Proofs.Ytjfnmlheehbojaa.VA
