/- Regions whose order is drawn: whatever order comes, the quiet operations may be taken first. -/
import Derived.Test.YtjfnmlheehbojaaVaBased
import Derived.OrdersHeld
namespace Go.Proofs.Ytjfnmlheehbojaa.VA
section
variable {P : Program} {ops : Array Oper} {Q : Exit → Act → World → Prop}

/-- Whatever order comes from here on; what never changes any more grows; S0 holds as long as no operation of B has come. -/
def Held (P : Program) (ops : Array Oper) (Q : Exit → Act → World → Prop) (B : List Nat) (S0 : World → Prop) : Nat → Array Bool → Imm → Act → World → Prop
  | 0, listed, _, a, w => Region.ready .any ops listed = [] ∧ Q .normal a w
  | n + 1, listed, I, a, w => (Region.ready .any ops listed = [] → Q .normal a w) ∧
    ∀ i ∈ Region.ready .any ops listed, wpOp P ops Q i (fun a' w' => ∃ J, (Imm.le I J ∧ Imm.ok J w' ∧ ((S0 w → S0 w') ∨ B.contains i = true)) ∧ Held P ops Q B S0 n (listed.setIfInBounds i true) J a' w') a w

theorem Held.any {B : List Nat} {S0 : World → Prop} : ∀ (n : Nat) (listed : Array Bool) (I : Imm) (a : Act) (w : World), Held P ops Q B S0 n listed I a w → wpAny P .any ops Q n listed a w
  | 0, _, _, _, _, h => h
  | n + 1, _, _, _, _, h => ⟨h.1, fun i hi => wpOp_mono (fun a' w' h' => by obtain ⟨J, _, h2⟩ := h'; exact Held.any n _ J a' w' h2) (h.2 i hi)⟩

/-- A quiet operation that may come now may be taken first. -/
theorem Held.first {B : List Nat} {S0 : World → Prop} {i : Nat} {oi : Oper} {v : Value} (hi : ops[i]? = some oi) (hsel : ∀ (j : Nat) (o : Oper) cs b, ops[j]? = some o → o.op ≠ .select cs b)
    (hQ : ∀ c a w, Q (.panic c) (a.put oi.dst v) w → Q (.panic c) a w) {S1 : World → Prop} (hB : (∀ w, S1 w) ∨ ((∀ w, S0 w ↔ S1 w) ∧ ∀ j oj, B.contains j = true → ops[j]? = some oj → ∃ e ∈ oj.after, Region.binds .any e = true ∧ e.on = i)) :
    ∀ (n : Nat) (listed : Array Bool) (I : Imm) (a : Act) (w : World),
      (∀ j oj, ops[j]? = some oj → j ≠ i → listed.getD j true = false → (∀ e ∈ oj.after, Region.binds .any e = true → e.on ≠ i) → oi.apart ops oj = true) →
      i ∈ Region.ready .any ops listed → YieldsIf P ops (fun w => Imm.ok I w ∧ S1 w) oi v a → Imm.ok I w → S1 w →
      Held P ops Q B S0 n (listed.setIfInBounds i true) I (a.put oi.dst v) w → Held P ops Q B S0 (n + 1) listed I a w := by
  intro n
  induction n with
  | zero =>
    intro listed I a w _ hr hy hI hS H
    refine ⟨fun h => (by rw [h] at hr; cases hr), fun j hj => ?_⟩
    by_cases hji : j = i
    · subst hji
      exact hy.wpOp hi ⟨hI, hS⟩ ⟨I, ⟨Imm.leRefl I, hI, .inl id⟩, H⟩
    · have := ready_mono hj hji
      rw [H.1] at this
      cases this
  | succ n ih =>
    intro listed I a w hfree hr hy hI hS H
    refine ⟨fun h => (by rw [h] at hr; cases hr), fun j hj => ?_⟩
    by_cases hji : j = i
    · subst hji
      exact hy.wpOp hi ⟨hI, hS⟩ ⟨I, ⟨Imm.leRefl I, hI, .inl id⟩, H⟩
    · have h1 := H.2 j (ready_mono hj hji)
      obtain ⟨hjun, oj, hoj, hall⟩ := mem_ready.1 hj
      have hnot : ∀ e ∈ oj.after, Region.binds .any e = true → e.on ≠ i := fun e he hb heq => by
        have h1 := hall e he hb
        have h0 := (mem_ready.1 hr).1
        rw [heq] at h1
        rcases Nat.lt_or_ge i listed.size with h' | h'
        · simp [h'] at h0 h1; rw [h0] at h1; cases h1
        · simp [Array.getElem?_eq_none h'] at h1
      have hjB : (∀ w, S1 w) ∨ B.contains j = false := by
        rcases hB with hB | ⟨_, hB⟩
        · exact .inl hB
        · cases hc : B.contains j with
          | false => exact .inr rfl
          | true =>
            obtain ⟨e, he, hb, heq⟩ := hB j oj hc hoj
            exact (hnot e he hb heq).elim
      have h2 := wpOp_putIf hoj (hfree j oj hoj hji hjun hnot) (fun cs b => hsel i oi cs b hi) (fun cs b => hsel j oj cs b hoj) hQ hy h1
      have hfree' : ∀ k ok, ops[k]? = some ok → k ≠ i → (listed.setIfInBounds j true).getD k true = false →
          (∀ e ∈ ok.after, Region.binds .any e = true → e.on ≠ i) → oi.apart ops ok = true := fun k ok hk hki hun hno => by
        refine hfree k ok hk hki ?_ hno
        by_cases hjk : j = k
        · subst hjk; exact hjun
        · rw [getD_set_ne true hjk] at hun; exact hun
      refine wpOp_mono (fun a' w' h3 => ?_) h2
      obtain ⟨hy', J, ⟨c1, c2, c3⟩, hH⟩ := h3
      have hS1 : S1 w' := by
        rcases hjB with h | h
        · exact h w'
        · rcases hB with hB | ⟨hB, _⟩
          · exact hB w'
          · rcases c3 with c3 | c3
            · exact (hB w').1 (c3 ((hB w).2 hS))
            · rw [h] at c3; cases c3
      have hyJ : YieldsIf P ops (fun w => Imm.ok J w ∧ S1 w) oi v a' :=
        hy'.imp (fun ⟨p, q⟩ => ⟨p, fun w2 hw2 => q w2 ⟨fun b o u hb => hw2.1 b o u (c1 b o u hb), hw2.2⟩⟩) id
      refine ⟨J, ⟨c1, c2, c3⟩, ih (listed.setIfInBounds j true) J a' w' hfree' (ready_mono hr (Ne.symm hji)) hyJ c2 hS1 ?_⟩
      rw [Array.setIfInBounds_comm _ _ hji]
      exact hH
end
end Go.Proofs.Ytjfnmlheehbojaa.VA
