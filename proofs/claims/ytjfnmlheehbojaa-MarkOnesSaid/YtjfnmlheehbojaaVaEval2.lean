/- Laws by which the abstract machine is carried out: two ways that come together. -/
import Derived.Test.YtjfnmlheehbojaaVaEval
namespace Go.Proofs.Ytjfnmlheehbojaa.VA
set_option linter.unusedVariables false
set_option linter.unusedSimpArgs false
section
variable {C : Cfg} {Q : AEx → ASt → Prop} {k : List Todo} {σ τ : ASt}
/-- Two ways through a region that differ in what is forgotten at its end and in one temporary alone. -/
theorem exec_app (k : List Todo) : ∀ (l : List Todo) (e : AEx) (σ : ASt), exec C Q (l ++ k) e σ = exec C (fun e τ => exec C Q k e τ) l e σ := by
  intro l
  induction l with
  | nil => intro e σ; cases e <;> rfl
  | cons x l ih =>
    intro e σ
    have ihf : exec C Q (l ++ k) = exec C (fun e τ => exec C Q k e τ) l := by funext e σ; exact ih e σ
    cases x <;> cases e <;> try simp only [List.cons_append, exec, ihf]
    rename_i o q all
    cases q <;> simp only [List.cons_append, exec, ihf]
theorem ex_join {a b : Todo} (τ0 : ASt) (h1 : exec C (fun e τ => e = .normal ∧ τ.keep C.live = τ0) [a, b] .normal σ) (h2 : exec C Q k .normal τ0) (hm : ∀ (Q1 Q2 : AEx → ASt → Prop), (∀ e σ, Q1 e σ → Q2 e σ) → exec C Q1 [a, b] .normal σ → exec C Q2 [a, b] .normal σ) : exec C Q (a :: b :: .keep :: k) .normal σ := by
  show exec C Q ([a, b] ++ (.keep :: k)) .normal σ
  rw [exec_app]
  refine hm _ _ (fun e τ h => ?_) h1
  obtain ⟨rfl, rfl⟩ := h
  exact h2
theorem R.wp_mono {C : Cfg} {K K' : ASt → Prop} (h : ∀ σ, K σ → K' σ) : ∀ r : R, r.wp C K → r.wp C K'
  | .ok _, k => h _ k
  | .fail, k => k
  | .need _ r, k => ⟨k.1, R.wp_mono h r k.2⟩
  | .split _ r s, k => ⟨fun e => R.wp_mono h r (k.1 e), fun e => R.wp_mono h s (k.2 e)⟩
  | .call _ _ _ _, ⟨bs, res, h1, h2, σ', h3, h4⟩ => ⟨bs, res, h1, h2, σ', h3, h _ h4⟩
theorem aops_mono {all : List Oper} {K K' : ASt → Prop} (h : ∀ σ, K σ → K' σ) : ∀ (l : List Oper) (σ : ASt), aops C all K l σ → aops C all K' l σ
  | [], _, k => h _ k
  | o :: r, _, k => R.wp_mono (fun τ => aops_mono h r τ) _ k
theorem aord_mono {all : List Oper} {K K' : ASt → Prop} (h : ∀ σ, K σ → K' σ) : ∀ (t : Ord) (σ : ASt), aord C all K t σ → aord C all K' t σ
  | .fin, _, k => h _ k
  | .quiet i t, σ, k => by
    simp only [aord] at k ⊢
    cases e : all[i]? with
    | none => rw [e] at k; exact k
    | some o => rw [e] at k; exact ⟨k.1, R.wp_mono (fun τ => aord_mono h t τ) _ k.2⟩
  | .one i t, σ, k => by
    simp only [aord] at k ⊢
    cases e : all[i]? with
    | none => rw [e] at k; exact k
    | some o => rw [e] at k; exact R.wp_mono (fun τ => aord_mono h t τ) _ k
  | .two i t j u, σ, k => by
    simp only [aord] at k ⊢
    refine ⟨?_, ?_⟩
    · cases e : all[i]? with
      | none => rw [e] at k; exact k.1
      | some o => rw [e] at k; exact R.wp_mono (fun τ => aord_mono h t τ) _ k.1
    · cases e : all[j]? with
      | none => rw [e] at k; exact k.2
      | some o => rw [e] at k; exact R.wp_mono (fun τ => aord_mono h u τ) _ k.2
  | .lone i t, σ, k => by
    simp only [aord] at k ⊢
    cases e : all[i]? with
    | none => rw [e] at k; exact k
    | some o => rw [e] at k; exact ⟨k.1, R.wp_mono (fun τ => aord_mono h t τ) _ k.2⟩
  | .unlock t, σ, k => aord_mono h t σ k
/-- .. behind a choice within a straight region, and within a drawn one: temporary t becomes v, all other ones that live stay. -/
theorem ex_joinB {r : R} {all l : List Oper} (t : Nat) (v : Bool) (h1 : exec C (fun e τ => e = .normal ∧ τ.keep C.live = ASt.keep { σ with tmps := ins t (.bool v) σ.tmps } C.live) [.res r, .ops all l] .normal σ)
    (h2 : exec C Q k .normal (ASt.keep { σ with tmps := ins t (.bool v) σ.tmps } C.live)) : exec C Q (.res r :: .ops all l :: .keep :: k) .normal σ :=
  ex_join _ h1 h2 fun Q1 Q2 hq h => R.wp_mono (fun τ => aops_mono (fun τ' => hq _ τ') l τ) r h
theorem ex_joinD {r : R} {all : List Oper} {u : Ord} (t : Nat) (v : Bool) (h1 : exec C (fun e τ => e = .normal ∧ τ.keep C.live = ASt.keep { σ with tmps := ins t (.bool v) σ.tmps } C.live) [.res r, .ord all u] .normal σ)
    (h2 : exec C Q k .normal (ASt.keep { σ with tmps := ins t (.bool v) σ.tmps } C.live)) : exec C Q (.res r :: .ord all u :: .keep :: k) .normal σ :=
  ex_join _ h1 h2 fun Q1 Q2 hq h => R.wp_mono (fun τ => aord_mono (fun τ' => hq _ τ') u τ) r h

end
end Go.Proofs.Ytjfnmlheehbojaa.VA
