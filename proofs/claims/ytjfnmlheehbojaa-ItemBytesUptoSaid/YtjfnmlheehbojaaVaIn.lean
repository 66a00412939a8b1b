/- Walks outside a round and within one: what is owed of an operation, of a region. -/
import Derived.Test.YtjfnmlheehbojaaVaOrd
import Derived.Scope
import Derived.LoopNIn
import Derived.OrdersIn
import Derived.RangeFuncRecord
namespace Go.Proofs.Ytjfnmlheehbojaa.VA
section
variable {P : Program} {Q : Exit → Act → World → Prop} {a : Act} {w : World} {r : Option Nat}

/-- The fence that lets everything in, outside a round or within round r. -/
abbrev fen (r : Option Nat) : Fence := { Fence.wide with round := r }
theorem callsIn_fen {n : Nat} {f : FuncId} {args : Array Value} {w : World} {R : Ending → World → Prop} (h : Calls P f args w R) : CallsIn (fen r) n P f args w R :=
  callsIn_wide.2 h
theorem rowsIn_fen {n : Nat} {row : String} {args : Array Value} {w : World} {R : Value → World → Prop} (h : Rows P row args w R) : RowsIn (fen r) n P row args w R := by
  intro c cs _
  obtain ⟨v, w', q, s⟩ := h c cs
  exact ⟨v, w', q, stepsIn_wide.2 s⟩
theorem oper_in {o : Oper} {K : Act → World → Prop} (hd : ∀ c, o.op ≠ .defer c) (h : o.wp P a w K Q) : o.wpIn (fen r) 0 P a w K Q := by
  refine ⟨fun _ _ => trivial, ?_⟩
  rw [Oper.semAt_eq _ _ _ hd]
  unfold Oper.wp at h
  generalize (execOp a.eval o).run P w = x at *
  cases x with
  | ok n w' =>
    cases n <;> simp only [Oper.upon, Oper.uponIn] at h ⊢ <;>
      first
        | exact h
        | exact ⟨fun e => (Bool.false_ne_true e).elim, CallsIn.mono (callsIn_fen h) (fun e w'' he => by cases e <;> exact he)⟩
        | exact ⟨fun e => (Bool.false_ne_true e).elim, RowsIn.mono (rowsIn_fen h) (fun v w'' he => he)⟩
        | exact h.elim
  | halt x w' => cases x <;> simp only [Oper.upon, Oper.uponIn] at h ⊢ <;> exact h
theorem ops_in {ops : Array Oper} (hd : ∀ o, o ∈ ops → ∀ c, o.op ≠ .defer c) (hL : ¬ LetsOut Q) : ∀ (l : List Nat) (a : Act) (w : World), wpOps P ops Q l a w → wpOpsIn (fen r) 0 P ops Q l a w := by
  intro l
  induction l with
  | nil => exact fun a w h => h
  | cons i rest ih =>
    intro a w h
    rw [wpOps_cons] at h
    rw [wpOpsIn_cons]
    unfold wpOp at h
    unfold wpOpIn
    cases ho : ops[i]? with
    | none => rw [ho] at h; exact ih a w h
    | some o =>
      rw [ho] at h
      simp only at h ⊢
      split
      · rename_i hw
        rw [if_pos hw] at h
        rcases h with h | h
        · exact Oper.wpIn_mono ih (oper_in (hd o (Array.mem_of_getElem? ho)) h)
        · exact (hL h.2).elim
      · rename_i hw
        rw [if_neg hw] at h
        exact ⟨fun _ _ => trivial, ih _ _ h⟩
theorem region_in {id : Nat} {ops : Array Oper} (hd : ∀ o, o ∈ ops → ∀ c, o.op ≠ .defer c) (hL : ¬ LetsOut Q) (h : wpList P ops Q ops.toList a w) : (Code.region id ops false).wpIn (fen r) 0 P Q a w :=
  wpIn_region (ops_in hd hL _ a w (by rw [List.range_eq_range', ← Array.length_toList, wpOps_eq_wpList ops.toList 0 (by simp)]; exact h))
theorem any_in {ops : Array Oper} (hd : ∀ o, o ∈ ops → ∀ c, o.op ≠ .defer c) (hL : ¬ LetsOut Q) {md : Region.Mode} : ∀ (n : Nat) (listed : Array Bool) (a : Act) (w : World), wpAny P md ops Q n listed a w → wpAnyIn (fen r) 0 P md ops Q n listed a w := by
  intro n
  induction n with
  | zero => exact fun listed a w h => h
  | succ n ih =>
    intro listed a w h
    refine ⟨h.1, fun i hi => ?_⟩
    have h := h.2 i hi
    unfold wpOp at h
    unfold wpOpIn
    cases ho : ops[i]? with
    | none => rw [ho] at h; exact ih _ a w h
    | some o =>
      rw [ho] at h
      simp only at h ⊢
      split
      · rename_i hw
        rw [if_pos hw] at h
        rcases h with h | h
        · exact Oper.wpIn_mono (ih _) (oper_in (hd o (Array.mem_of_getElem? ho)) h)
        · exact (hL h.2).elim
      · rename_i hw
        rw [if_neg hw] at h
        exact ⟨fun _ _ => trivial, ih _ _ _ h⟩

theorem stepR_scope {b : Frame} {k : List Item} {cs : List Frame} {c : Code} : step P (lone (b.atR a (.code (.scope c) :: k)) cs w) = .next (lone (b.atR a (.code c :: .inScope c :: k)) cs w) :=
  step_lone_go (by simp [stepG, stepG.exec, Frame.atR])
theorem stepR_inScope {b : Frame} {k : List Item} {cs : List Frame} {c : Code} : step P (lone (b.atR a (.inScope c :: k)) cs w) = .next (lone (b.atR a k) cs w) :=
  step_lone_go (by simp [stepG, stepG.exec, Frame.atR])
theorem wpIn_scope_straight {F : Fence} {n : Nat} {c : Code} (h : c.wpIn F n P (Exit.noGoto Q) a w) : (Code.scope c).wpIn F n P Q a w := by
  intro b k cs hro hb hr
  obtain ⟨e, a₁, w₁, hq, harr⟩ := h b (.inScope c :: k) cs hro hb hr
  have s0 : StepsIn (Machine.fenced P F) P (lone (b.atR a (.code (.scope c) :: k)) cs w) (lone (b.atR a (.code c :: .inScope c :: k)) cs w) := .one (fenced_calm hb hr rfl) stepR_scope
  cases e with
  | normal => exact ⟨.normal, a₁, w₁, hq, StepsIn.trans s0 (StepsIn.trans harr (.one (fenced_calm hb hr rfl) stepR_inScope))⟩
  | exit id => exact ⟨.exit id, a₁, w₁, hq, fun k' hk => StepsIn.trans s0 (harr.1 k' (by simp [exitTo, hk])), fun hs hk => by
      obtain ⟨k₁, q1, q2⟩ := harr.2 hs (by simp [exitTo, hk])
      exact ⟨k₁, q1, StepsIn.trans s0 q2⟩⟩
  | goto l => exact hq.elim
  | ret => exact ⟨.ret, a₁, w₁, hq, .of_steps s0 harr⟩
  | panic ch => exact ⟨.panic ch, a₁, w₁, hq, .of_steps s0 harr⟩
  | outgrown => exact ⟨.outgrown, a₁, w₁, hq, .of_steps s0 harr⟩
end
end Go.Proofs.Ytjfnmlheehbojaa.VA
