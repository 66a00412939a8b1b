/- Laws by which the abstract machine is carried out, step by step. -/
import Derived.Test.YtjfnmlheehbojaaVaDefs
namespace Go.Proofs.Ytjfnmlheehbojaa.VA
section
variable {C : Cfg} {Q : AEx → ASt → Prop} {k : List Todo} {σ τ : ASt}

theorem bq_t (b : Bool) : (b == true) = b := by cases b <;> rfl
theorem bq_f (b : Bool) : (b == false) = !b := by cases b <;> rfl
theorem then_code (b : Code) : AEx.then (aco C b (exec C Q k)) (exec C Q k) = exec C Q (.code b :: k) := by
  funext e σ; cases e <;> rfl
theorem ex_seq (a b : Code) : exec C Q (.code (.seq a b) :: k) .normal σ = exec C Q (.code a :: .code b :: k) .normal σ := by
  show aco C a (AEx.then (aco C b (exec C Q k)) (exec C Q k)) σ = _
  rw [then_code]; rfl
theorem in_block (id : Nat) : AEx.inBlock id (exec C Q k) = exec C Q (.inBlock id :: k) := by
  funext e σ; cases e <;> rfl
theorem ex_block (id : Nat) (c : Code) : exec C Q (.code (.block id c) :: k) .normal σ = exec C Q (.code c :: .inBlock id :: k) .normal σ := by
  show aco C c (AEx.inBlock id (exec C Q k)) σ = _
  rw [in_block]; rfl
theorem ex_region (id : Nat) (ops : Array Oper) : exec C Q (.code (.region id ops false) :: k) .normal σ = exec C Q (.ops ops.toList ops.toList :: .keep :: k) .normal σ := propext Iff.rfl
theorem ex_ops_nil (all : List Oper) : exec C Q (.ops all [] :: k) .normal σ = exec C Q k .normal σ := propext Iff.rfl
theorem ex_ops_cons (all : List Oper) (o : Oper) (r : List Oper) : exec C Q (.ops all (o :: r) :: k) .normal σ = exec C Q (.res (stepR C all σ o) :: .ops all r :: k) .normal σ := propext Iff.rfl
theorem ex_ok : exec C Q (.res (.ok τ) :: k) .normal σ = exec C Q k .normal τ := propext Iff.rfl
theorem ex_need (p : Prop) (r : R) : exec C Q (.res (.need p r) :: k) .normal σ = (p ∧ exec C Q (.res r :: k) .normal σ) := propext Iff.rfl
theorem ex_split_t (r s : R) : exec C Q (.res (.split true r s) :: k) .normal σ = exec C Q (.res r :: k) .normal σ := by
  show ((true = true → _) ∧ (true = false → _)) = _; simp; rfl
theorem ex_split_f (r s : R) : exec C Q (.res (.split false r s) :: k) .normal σ = exec C Q (.res s :: k) .normal σ := by
  show ((false = true → _) ∧ (false = false → _)) = _; simp; rfl
theorem ex_both (p : Prop) (r s : R) : exec C Q (.res (.both p r s) :: k) .normal σ = ((p → exec C Q (.res r :: k) .normal σ) ∧ exec C Q (.res s :: k) .normal σ) := propext Iff.rfl
theorem ex_bothI {p : Prop} {r s : R} (h1 : p → exec C Q (.res r :: k) .normal σ) (h2 : exec C Q (.res s :: k) .normal σ) : exec C Q (.res (.both p r s) :: k) .normal σ := ⟨h1, h2⟩
theorem ex_split {b : Bool} {r s : R} (h1 : b = true → exec C Q (.res r :: k) .normal σ) (h2 : b = false → exec C Q (.res s :: k) .normal σ) : exec C Q (.res (.split b r s) :: k) .normal σ := ⟨h1, h2⟩
theorem ex_cond (c : Operand) (a b : Code) : exec C Q (.code (.cond c a b) :: k) .normal σ = exec C Q (.br (σ.rd C 0 c) a b :: k) .normal σ := propext Iff.rfl
theorem ex_br_t (a b : Code) : exec C Q (.br (.bool true) a b :: k) .normal σ = exec C Q (.code a :: k) .normal σ := by
  show ((true = true → _) ∧ (true = false → _)) = _; simp; rfl
theorem ex_br_f (a b : Code) : exec C Q (.br (.bool false) a b :: k) .normal σ = exec C Q (.code b :: k) .normal σ := by
  show ((false = true → _) ∧ (false = false → _)) = _; simp; rfl
theorem ex_br {t : Bool} {a b : Code} (h1 : t = true → exec C Q (.code a :: k) .normal σ) (h2 : t = false → exec C Q (.code b :: k) .normal σ) : exec C Q (.br (.bool t) a b :: k) .normal σ := ⟨h1, h2⟩
theorem ex_skip : exec C Q (.code .skip :: k) .normal σ = exec C Q k .normal σ := propext Iff.rfl
theorem ex_label (l : Nat) : exec C Q (.code (.label l) :: k) .normal σ = exec C Q k .normal σ := propext Iff.rfl
theorem ex_scope (c : Code) : exec C Q (.code (.scope c) :: k) .normal σ = exec C Q (.code c :: k) .normal σ := propext Iff.rfl
theorem ex_exit (id : Nat) : exec C Q (.code (.exit id) :: k) .normal σ = exec C Q k (.exit id) σ := propext Iff.rfl
theorem ex_ret : exec C Q (.code .ret :: k) .normal σ = exec C Q k .ret σ := propext Iff.rfl
theorem ex_keep : exec C Q (.keep :: k) .normal σ = exec C Q k .normal (σ.keep C.live) := propext Iff.rfl
theorem ex_inBlock_n (id : Nat) : exec C Q (.inBlock id :: k) .normal σ = exec C Q k .normal σ := propext Iff.rfl
theorem ex_inBlock_e (id i : Nat) : exec C Q (.inBlock id :: k) (.exit i) σ = if i = id then exec C Q k .normal σ else exec C Q k (.exit i) σ := propext Iff.rfl
theorem ex_inBlock_same (id : Nat) : exec C Q (.inBlock id :: k) (.exit id) σ = exec C Q k .normal σ := if_pos rfl
theorem ex_inBlock_r (id : Nat) : exec C Q (.inBlock id :: k) .ret σ = exec C Q k .ret σ := propext Iff.rfl
theorem ex_code_e (c : Code) (i : Nat) : exec C Q (.code c :: k) (.exit i) σ = exec C Q k (.exit i) σ := propext Iff.rfl
theorem ex_code_r (c : Code) : exec C Q (.code c :: k) .ret σ = exec C Q k .ret σ := propext Iff.rfl
theorem ex_rounds_e (L : List Nat) (n : Nat) (c : Code) (i : Nat) : exec C Q (.rounds L n c :: k) (.exit i) σ = exec C Q k (.exit i) σ := propext Iff.rfl
theorem ex_rounds_r (L : List Nat) (n : Nat) (c : Code) : exec C Q (.rounds L n c :: k) .ret σ = exec C Q k .ret σ := propext Iff.rfl
theorem ex_draw {id : Nat} {ops : Array Oper} (B ns : List Nat) (t : Ord) (hb : (Region.noSelect ops && (ops.toList.all (madeB ns) && (okOrd ops B true (Array.replicate ops.size false) t && decide (t.depth ≤ ops.size)))) = true) (h : exec C Q (.ord ops.toList ns t :: .keep :: k) .normal σ) :
    exec C Q (.code (.region id ops true) :: k) .normal σ := ⟨B, ns, t, hb, h⟩
theorem ex_ord_fin (all : List Oper) (ns : List Nat) : exec C Q (.ord all ns .fin :: k) .normal σ = exec C Q k .normal σ := propext Iff.rfl
theorem ex_ord_quiet (all : List Oper) (ns : List Nat) (i : Nat) (t : Ord) : exec C Q (.ord all ns (.quiet i t) :: k) .normal σ = exec C Q (.oq all[i]? true ns all :: .ord all ns t :: k) .normal σ := propext Iff.rfl
theorem ex_ord_one (all : List Oper) (ns : List Nat) (i : Nat) (t : Ord) : exec C Q (.ord all ns (.one i t) :: k) .normal σ = exec C Q (.oq all[i]? false ns all :: .ord all ns t :: k) .normal σ := propext Iff.rfl
theorem ex_ord_two (all : List Oper) (ns : List Nat) (i j : Nat) (t u : Ord) : exec C Q (.ord all ns (.two i t j u) :: k) .normal σ = (exec C Q (.oq all[i]? false ns all :: .ord all ns t :: k) .normal σ ∧ exec C Q (.oq all[j]? false ns all :: .ord all ns u :: k) .normal σ) := propext Iff.rfl
theorem ex_ord_three (all : List Oper) (ns : List Nat) (i j m : Nat) (t u v : Ord) : exec C Q (.ord all ns (.three i t j u m v) :: k) .normal σ = (exec C Q (.oq all[i]? false ns all :: .ord all ns t :: k) .normal σ ∧ exec C Q (.oq all[j]? false ns all :: .ord all ns u :: k) .normal σ ∧ exec C Q (.oq all[m]? false ns all :: .ord all ns v :: k) .normal σ) := propext Iff.rfl
theorem ex_ord_lone (all : List Oper) (ns : List Nat) (i : Nat) (t : Ord) : exec C Q (.ord all ns (.lone i t) :: k) .normal σ = exec C Q (.ol all[i]? ns all :: .ord all ns t :: k) .normal σ := propext Iff.rfl
theorem ex_ol (o : Oper) (ns : List Nat) (all : List Oper) : exec C Q (.ol (some o) ns all :: k) .normal σ = ((o.guard.isNone && loneOp C ns σ o.op) = true ∧ exec C Q (.res (stepR C all σ o) :: k) .normal σ) := propext Iff.rfl
theorem ex_ord_unlock (all : List Oper) (ns : List Nat) (t : Ord) : exec C Q (.ord all ns (.unlock t) :: k) .normal σ = exec C Q (.ord all ns t :: k) .normal σ := propext Iff.rfl
theorem ex_oq_t (o : Oper) (ns : List Nat) (all : List Oper) : exec C Q (.oq (some o) true ns all :: k) .normal σ = (quietOp C ns σ o.op = true ∧ exec C Q (.res (stepR C all σ o) :: k) .normal σ) := propext Iff.rfl
theorem ex_oq_f (o : Oper) (ns : List Nat) (all : List Oper) : exec C Q (.oq (some o) false ns all :: k) .normal σ = exec C Q (.res (stepR C all σ o) :: k) .normal σ := propext Iff.rfl
theorem ex_nil (e : AEx) : exec C Q [] e σ = Q e σ := propext Iff.rfl

/-- The rounds of a loop, one by one. -/
theorem ex_round (L : List Nat) (n : Nat) (c : Code) : exec C Q (.rounds L (n + 1) c :: k) .normal σ = exec C Q (.code c :: .rounds L n c :: k) .normal (σ.keep L) := by
  show aco C c (AEx.then (arounds L (aco C c) (exec C Q k) n) (exec C Q k)) (σ.keep L) = aco C c (exec C Q (.rounds L n c :: k)) (σ.keep L)
  congr 1
  funext e σ; cases e <;> rfl
/-- A loop over a function: round by round. -/
theorem ex_range (ks : List Nat) (t : Nat) (p : Imm → Value → Prop) (xs : List AV) (st : Nat → List (Nat × List AV)) {g : Operand} {ps : Array Tmp} {rid : Nat} {ops : Array Oper} {body : Code}
    (h : C.inr = false ∧ C.fix = [] ∧ ps = #[t] ∧ t < C.n ∧ ks.contains t = false ∧ ks.all (fun k => (look σ.vars k).isSome) = true ∧ σ.rd C 0 g = .ext p ∧ Iter C.P p xs ∧ keepV ks σ.vars = st 0)
    (hs : ∀ i x, xs[i]? = some x → x.isImm = true ∧ exec (C.round ks) (roundQ ks (VA.strike (AV.dropA ks) σ.tmps) (st (i + 1)) (exec C Q k)) [.ops ops.toList ops.toList, .keep, .code body] .normal ⟨ins t x (VA.strike (AV.dropR ks) σ.tmps), st i⟩)
    (he : exec C Q k .normal ⟨VA.strike (AV.dropA ks) σ.tmps, st xs.length⟩) : exec C Q (.code (.rangeFunc g ps (.region rid ops false) body) :: k) .normal σ :=
  ⟨ks, t, p, xs, st, h, hs, he⟩
theorem ex_loop (L : List Nat) (n : Nat) {c : Code} (h : exec C Q (.rounds L n c :: k) .normal σ) : exec C Q (.code (.loop c) :: k) .normal σ := ⟨L, n, h⟩
/-- A loop by its invariant: at the begin of each round the state is 'st a' for some a. -/
theorem ex_iter {α : Type} (L : List Nat) (st : α → ASt) (inv : α → Prop) (μ : α → Nat) (a : α) {c : Code} (hs : σ.keep L = st a) (h0 : inv a)
    (step : ∀ (n : Nat) (a : α), inv a → (∀ b τ, inv b → μ b < μ a → τ.keep L = st b → exec C Q (.rounds L n c :: k) .normal τ) → exec C Q (.code c :: .rounds L n c :: k) .normal (st a)) :
    exec C Q (.code (.loop c) :: k) .normal σ := by
  have key : ∀ (n : Nat) (a : α) (τ : ASt), inv a → μ a < n → τ.keep L = st a → exec C Q (.rounds L n c :: k) .normal τ := by
    intro n
    induction n with
    | zero => intro a τ _ h; omega
    | succ n ih =>
      intro a τ ha hn hτ
      rw [ex_round, hτ]
      exact step n a ha fun b τ' hb hlt hτ' => ih b τ' hb (by omega) hτ'
  exact ex_loop L (μ a + 1) (key _ a σ h0 (by omega) hs)

theorem wrRes_cases (d : Option Nat) (v : AV) : (∃ τ, σ.wrRes C d v = .ok τ) ∨ σ.wrRes C d v = .fail := by
  unfold ASt.wrRes
  split
  · exact .inl ⟨_, rfl⟩
  · unfold R.chk
    split
    · unfold ASt.wrResTo
      split
      · exact .inl ⟨_, rfl⟩
      · exact .inl ⟨_, rfl⟩
      · unfold R.chk; split
        · exact .inl ⟨_, rfl⟩
        · exact .inr rfl
    · exact .inr rfl
/-- A call: by its contract. -/
theorem ex_call {f : FuncId} {as : List AV} {d : Option Nat} {res : AV} (h : Contract C.P f as res)
    (hk : exec C Q (.res (τ.wrRes C d res) :: k) .normal σ) : exec C Q (.res (.call f as d τ) :: k) .normal σ := by
  have hd : Dulls as as := by
    clear h hk
    induction as with
    | nil => exact .nil
    | cons a as ih => exact .cons (.refl a) ih
  rcases wrRes_cases (C := C) (σ := τ) d res with ⟨τ', h'⟩ | h'
  · rw [h'] at hk
    exact ⟨as, res, hd, .inl h, τ', h', hk⟩
  · rw [h'] at hk
    exact hk.elim
theorem ex_extern {f : FuncId} {as : List AV} {d : Option Nat} {res : AV} (h : Extern C.P f as res)
    (hk : exec C Q (.res (τ.wrRes C d res) :: k) .normal σ) : exec C Q (.res (.call f as d τ) :: k) .normal σ := by
  have hd : Dulls as as := by
    clear h hk
    induction as with
    | nil => exact .nil
    | cons a as ih => exact .cons (.refl a) ih
  rcases wrRes_cases (C := C) (σ := τ) d res with ⟨τ', h'⟩ | h'
  · rw [h'] at hk
    exact ⟨as, res, hd, .inr h, τ', h', hk⟩
  · rw [h'] at hk
    exact hk.elim
theorem ex_call_dull {f : FuncId} {as bs : List AV} {d : Option Nat} {res : AV} (hd : Dulls as bs) (h : Contract C.P f bs res)
    (hk : exec C Q (.res (τ.wrRes C d res) :: k) .normal σ) : exec C Q (.res (.call f as d τ) :: k) .normal σ := by
  rcases wrRes_cases (C := C) (σ := τ) d res with ⟨τ', h'⟩ | h'
  · rw [h'] at hk
    exact ⟨bs, res, hd, .inl h, τ', h', hk⟩
  · rw [h'] at hk
    exact hk.elim
end
end Go.Proofs.Ytjfnmlheehbojaa.VA
