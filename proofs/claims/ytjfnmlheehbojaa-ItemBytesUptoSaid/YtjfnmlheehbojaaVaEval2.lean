/- Laws by which the abstract machine is carried out: two ways that come together. -/
import Derived.Test.YtjfnmlheehbojaaVaEval
namespace Go.Proofs.Ytjfnmlheehbojaa.VA
set_option linter.unusedVariables false
set_option linter.unusedSimpArgs false
section
variable {C : Cfg} {Q : AEx → ASt → Prop} {k : List Todo} {σ τ : ASt}
/-- Two ways through a region that differ in what is forgotten at its end and in one temporary alone. -/
theorem exec_app (k : List Todo) : ∀ (l : List Todo) (e : AEx) (σ : ASt), exec C Q (l ++ k) e σ = exec C (fun e τ => exec C Q k e τ) l e σ := by
  intro l
  induction l with
  | nil => intro e σ; cases e <;> rfl
  | cons x l ih =>
    intro e σ
    have ihf : exec C Q (l ++ k) = exec C (fun e τ => exec C Q k e τ) l := by funext e σ; exact ih e σ
    cases x <;> cases e <;> try simp only [List.cons_append, exec, ihf]
    rename_i o q ns all
    cases q <;> simp only [List.cons_append, exec, ihf]
theorem ex_join {a b : Todo} (τ0 : ASt) (h1 : exec C (fun e τ => e = .normal ∧ τ.keep C.live = τ0) [a, b] .normal σ) (h2 : exec C Q k .normal τ0) (hm : ∀ (Q1 Q2 : AEx → ASt → Prop), (∀ e σ, Q1 e σ → Q2 e σ) → exec C Q1 [a, b] .normal σ → exec C Q2 [a, b] .normal σ) : exec C Q (a :: b :: .keep :: k) .normal σ := by
  show exec C Q ([a, b] ++ (.keep :: k)) .normal σ
  rw [exec_app]
  refine hm _ _ (fun e τ h => ?_) h1
  obtain ⟨rfl, rfl⟩ := h
  exact h2
theorem R.wp_mono {C : Cfg} {K K' : ASt → Prop} (h : ∀ σ, K σ → K' σ) : ∀ r : R, r.wp C K → r.wp C K'
  | .ok _, k => h _ k
  | .fail, k => k
  | .need _ r, k => ⟨k.1, R.wp_mono h r k.2⟩
  | .split _ r s, k => ⟨fun e => R.wp_mono h r (k.1 e), fun e => R.wp_mono h s (k.2 e)⟩
  | .both _ r s, k => ⟨fun e => R.wp_mono h r (k.1 e), R.wp_mono h s k.2⟩
  | .call _ _ _ _, ⟨bs, res, h1, h2, σ', h3, h4⟩ => ⟨bs, res, h1, h2, σ', h3, h _ h4⟩
theorem aops_mono {all : List Oper} {K K' : ASt → Prop} (h : ∀ σ, K σ → K' σ) : ∀ (l : List Oper) (σ : ASt), aops C all K l σ → aops C all K' l σ
  | [], _, k => h _ k
  | o :: r, _, k => R.wp_mono (fun τ => aops_mono h r τ) _ k
theorem aord_mono {all : List Oper} {ns : List Nat} {K K' : ASt → Prop} (h : ∀ σ, K σ → K' σ) : ∀ (t : Ord) (σ : ASt), aord C all ns K t σ → aord C all ns K' t σ
  | .fin, _, k => h _ k
  | .quiet i t, σ, k => by
    simp only [aord] at k ⊢
    cases e : all[i]? with
    | none => rw [e] at k; exact k
    | some o => rw [e] at k; exact ⟨k.1, R.wp_mono (fun τ => aord_mono h t τ) _ k.2⟩
  | .one i t, σ, k => by
    simp only [aord] at k ⊢
    cases e : all[i]? with
    | none => rw [e] at k; exact k
    | some o => rw [e] at k; exact R.wp_mono (fun τ => aord_mono h t τ) _ k
  | .two i t j u, σ, k => by
    simp only [aord] at k ⊢
    refine ⟨?_, ?_⟩
    · cases e : all[i]? with
      | none => rw [e] at k; exact k.1
      | some o => rw [e] at k; exact R.wp_mono (fun τ => aord_mono h t τ) _ k.1
    · cases e : all[j]? with
      | none => rw [e] at k; exact k.2
      | some o => rw [e] at k; exact R.wp_mono (fun τ => aord_mono h u τ) _ k.2
  | .three i t j u m v, σ, k => by
    simp only [aord] at k ⊢
    refine ⟨?_, ?_, ?_⟩
    · cases e : all[i]? with
      | none => rw [e] at k; exact k.1
      | some o => rw [e] at k; exact R.wp_mono (fun τ => aord_mono h t τ) _ k.1
    · cases e : all[j]? with
      | none => rw [e] at k; exact k.2.1
      | some o => rw [e] at k; exact R.wp_mono (fun τ => aord_mono h u τ) _ k.2.1
    · cases e : all[m]? with
      | none => rw [e] at k; exact k.2.2
      | some o => rw [e] at k; exact R.wp_mono (fun τ => aord_mono h v τ) _ k.2.2
  | .lone i t, σ, k => by
    simp only [aord] at k ⊢
    cases e : all[i]? with
    | none => rw [e] at k; exact k
    | some o => rw [e] at k; exact ⟨k.1, R.wp_mono (fun τ => aord_mono h t τ) _ k.2⟩
  | .unlock t, σ, k => aord_mono h t σ k
/-- .. behind a choice within a straight region, and within a drawn one: temporary t becomes v, all other ones that live stay. -/
theorem ex_joinB {r : R} {all l : List Oper} (t : Nat) (v : Bool) (h1 : exec C (fun e τ => e = .normal ∧ τ.keep C.live = ASt.keep { σ with tmps := ins t (.bool v) σ.tmps } C.live) [.res r, .ops all l] .normal σ)
    (h2 : exec C Q k .normal (ASt.keep { σ with tmps := ins t (.bool v) σ.tmps } C.live)) : exec C Q (.res r :: .ops all l :: .keep :: k) .normal σ :=
  ex_join _ h1 h2 fun Q1 Q2 hq h => R.wp_mono (fun τ => aops_mono (fun τ' => hq _ τ') l τ) r h
theorem ex_joinD {r : R} {all : List Oper} {ns : List Nat} {u : Ord} (t : Nat) (v : Bool) (h1 : exec C (fun e τ => e = .normal ∧ τ.keep C.live = ASt.keep { σ with tmps := ins t (.bool v) σ.tmps } C.live) [.res r, .ord all ns u] .normal σ)
    (h2 : exec C Q k .normal (ASt.keep { σ with tmps := ins t (.bool v) σ.tmps } C.live)) : exec C Q (.res r :: .ord all ns u :: .keep :: k) .normal σ :=
  ex_join _ h1 h2 fun Q1 Q2 hq h => R.wp_mono (fun τ => aord_mono (fun τ' => hq _ τ') u τ) r h

theorem aco_mono : ∀ (c : Code) {C : Cfg} {Q Q' : AEx → ASt → Prop} (h : ∀ e σ, Q e σ → Q' e σ) (σ : ASt), aco C c Q σ → aco C c Q' σ := by
  intro c
  induction c with
  | skip => exact fun h σ k => h _ _ k
  | label l => exact fun h σ k => h _ _ k
  | scope c ih => exact fun h σ k => ih h σ k
  | exit id => exact fun h σ k => h _ _ k
  | ret => exact fun h σ k => h _ _ k
  | region id ops draws =>
    intro C Q Q' h σ k
    cases draws with
    | false => exact aops_mono (fun τ => h _ _) _ _ k
    | true =>
      obtain ⟨B, ns, t, hb, k⟩ := k
      exact ⟨B, ns, t, hb, aord_mono (fun τ => h _ _) _ _ k⟩
  | seq x y ihx ihy =>
    intro C Q Q' h σ k
    refine ihx (fun e τ hq => ?_) σ k
    cases e with
    | normal => exact ihy h τ hq
    | exit id => exact h _ _ hq
    | ret => exact h _ _ hq
  | cond c x y ihx ihy =>
    intro C Q Q' h σ k
    unfold aco at k ⊢
    generalize σ.rd C 0 c = v at k ⊢
    cases v <;> simp only [condA] at k ⊢
    exact ⟨fun e => ihx h σ (k.1 e), fun e => ihy h σ (k.2 e)⟩
  | block id c ih =>
    intro C Q Q' h σ k
    refine ih (fun e τ hq => ?_) σ k
    cases e with
    | normal => exact h _ _ hq
    | ret => exact h _ _ hq
    | exit i =>
      simp only [AEx.inBlock] at hq ⊢
      split
      · rename_i e; rw [if_pos e] at hq; exact h _ _ hq
      · rename_i e; rw [if_neg e] at hq; exact h _ _ hq
  | loop c ih =>
    intro C Q Q' h σ k
    obtain ⟨L, n, k⟩ := k
    refine ⟨L, n, ?_⟩
    induction n generalizing σ with
    | zero => exact k.elim
    | succ n ihn =>
      refine ih (fun e τ hq => ?_) _ k
      cases e with
      | normal => exact ihn τ hq
      | exit id => exact h _ _ hq
      | ret => exact h _ _ hq
  | rangeFunc g ps assign body _ ihb =>
    intro C Q Q' h σ k
    cases assign with
    | region id ops draws =>
      cases draws with
      | false =>
        obtain ⟨ks, t, p, xs, st, h1, h2, h3⟩ := k
        refine ⟨ks, t, p, xs, st, h1, fun i x hx => ⟨(h2 i x hx).1, aops_mono (fun τ hq => ihb (fun e τ hq => ?_) _ hq) _ _ (h2 i x hx).2⟩, h _ _ h3⟩
        cases e with
        | normal => exact hq
        | exit id => exact h _ _ hq
        | ret => exact h _ _ hq
      | true => exact k.elim
    | _ => exact k.elim
  | _ => exact fun _ _ k => k.elim
/-- Two ways of a condition that come together: temporary t becomes v. -/
theorem ex_if {b : Bool} {A B : Code} (t : Nat) (v : AV) (h1 : b = true → exec C (fun e τ => e = .normal ∧ τ = ASt.keep { σ with tmps := ins t v σ.tmps } C.live) [.code A] .normal σ)
    (h2 : b = false → exec C (fun e τ => e = .normal ∧ τ = ASt.keep { σ with tmps := ins t v σ.tmps } C.live) [.code B] .normal σ)
    (h : exec C Q k .normal (ASt.keep { σ with tmps := ins t v σ.tmps } C.live)) : exec C Q (.br (.bool b) A B :: k) .normal σ := by
  refine ex_br (fun e => ?_) (fun e => ?_)
  · refine aco_mono A (fun e τ hq => ?_) σ (h1 e)
    obtain ⟨rfl, rfl⟩ := hq
    exact h
  · refine aco_mono B (fun e τ hq => ?_) σ (h2 e)
    obtain ⟨rfl, rfl⟩ := hq
    exact h
/-- .. a number that one way sets. -/
theorem ex_ifI {b : Bool} {A B : Code} (t : Nat) (K : IntKind) (x : Int) {y : Int} (hy : look σ.tmps t = some (.int K y))
    (h1 : exec C (fun e τ => e = .normal ∧ τ = ASt.keep { σ with tmps := ins t (.int K x) σ.tmps } C.live) [.code A] .normal σ)
    (h2 : exec C (fun e τ => e = .normal ∧ τ = ASt.keep { σ with tmps := ins t (.int K y) σ.tmps } C.live) [.code B] .normal σ)
    (h : exec C Q k .normal (ASt.keep { σ with tmps := ins t (.int K (bif b then x else y)) σ.tmps } C.live)) : exec C Q (.br (.bool b) A B :: k) .normal σ := by
  cases b with
  | true => exact ex_if t (.int K x) (fun _ => h1) (fun e => by cases e) h
  | false => exact ex_if t (.int K y) (fun e => by cases e) (fun _ => h2) h
/-- Whatever order comes, the state at the region's end is τ0. -/
theorem ex_drawn {all : List Oper} {ns : List Nat} {t : Ord} (τ0 : ASt) (h1 : exec C (fun e τ => e = .normal ∧ τ.keep C.live = τ0) [.ord all ns t] .normal σ) (h2 : exec C Q k .normal τ0) : exec C Q (.ord all ns t :: .keep :: k) .normal σ := by
  refine aord_mono (fun τ hq => ?_) t σ h1
  obtain ⟨_, rfl⟩ := hq
  exact h2
end
end Go.Proofs.Ytjfnmlheehbojaa.VA
