/- Functions that hand values to a loop: laws for their walks. -/
import Derived.Test.YtjfnmlheehbojaaVaFin
import Derived.TacticsIn
namespace Go.Proofs.Ytjfnmlheehbojaa.VA
set_option linter.unusedVariables false
section
variable {F : Fx} {I : Imm} {own : Nat → Option Loc} {σ : ASt} {a : Act} {w : World} {C : Cfg} {K : ASt → Prop} {Q : Exit → Act → World → Prop}

theorem reg_in (hok : CfgOk C) {id : Nat} {ops : Array Oper} (hnd : noDeferB ops = true) (hC : F.C = C) (hop : F.open) (h : RI F I own σ a w) (hw : aops C ops.toList K ops.toList σ) (hL : ¬ LetsOut Q) (hQ : ∀ a w, Post F K a w → Q .normal a w) :
    (Code.region id ops false).wpIn (fen none) 0 C.P Q a w := region_in (noDefer_of hnd) hL (aops_ok hC hok hop hQ ops.toList σ I own a w h hw)
/-- One operation of a region. -/
theorem op_in (hok : CfgOk C) {ops : List Oper} {rest : List Oper} {o : Oper} (hd : ∀ c, o.op ≠ .defer c) (hC : F.C = C) (hop : F.open) (h : RI F I own σ a w) (hw : aops C ops K [o] σ)
    (hn : ∀ a w, Post F K a w → wpListIn (fen none) 0 C.P ops.toArray Q rest a w) : wpListIn (fen none) 0 C.P ops.toArray Q (o :: rest) a w := by
  have hs := step_ok (Q := Q) (ops := ops.toArray) (K := K) hC hok (fun τ _ => OkLk.of_open hop τ o) h hw
  unfold wpListIn
  split
  · rename_i hwd
    exact Oper.wpIn_mono hn (oper_in hd (hs.1 hwd))
  · rename_i hwd
    exact ⟨fun _ _ => trivial, hn _ _ (hs.2 (by simpa using hwd))⟩
/-- A call of yield. -/
theorem yield_in {P : Program} {ops : Array Oper} {rest : List Oper} {o : Oper} (hg : o.guard = none) {x y : Operand} {T : TypeId} (hop : o.op = .call { callee := .value x, args := #[y], argTypes := #[T] })
    {l : Nat} (hx : a.eval x = .func (.yield l) #[] #[]) {R : Bool → World → Prop} (hr : RoundW P l (a.eval y) w R) (hn : ∀ b w', R b w' → wpListIn (fen none) 0 P ops Q rest (a.put o.dst (.bool b)) w') :
    wpListIn (fen none) 0 P ops Q (o :: rest) a w := by
  obtain ⟨f, tmps, assign, body, h1, h2⟩ := hr
  have hrun : (o.semAt none a.eval).run P w = .ok (.round l f tmps assign body) w := by
    rw [Oper.semAt_none]
    unfold execOp
    rw [hop]
    generalize a.eval = ρ at hx h1 ⊢
    simp [resolve, invoke, hx, go_sem, h1]
  unfold wpListIn
  rw [if_pos (by simp [Region.wanted, hg])]
  refine ⟨fun _ _ => trivial, ?_⟩
  show o.uponIn (fen none) 0 P a _ Q ((o.semAt none a.eval).run P w)
  rw [hrun]
  refine ⟨fun e => (Bool.false_ne_true e).elim, RoundIn.mono h2 fun e w' he => ?_⟩
  obtain ⟨b, rfl, hb⟩ := he
  exact hn b w' hb

/-- The base of a walk from here on: nothing that lies is turned. -/
def bare (C : Cfg) (w : World) (I : Imm) : Fx := ⟨C, w, I, fun _ => False, fun _ => false, fun _ => False, [], #[]⟩
theorem bare_fix (hfix : C.fix = []) {t : Nat} (e : (bare C w I).C.fix.contains t = true) : False := by
  have e : C.fix.contains t = true := e
  rw [hfix] at e
  cases e
theorem bare_open : (bare C w I).open := ⟨fun _ => rfl, fun _ h => h⟩
theorem RI.nil (hI : Imm.ok I w) (hfix : C.fix = []) (hs : a.tmps.size = C.n) (hd : a.defers = []) : RI (bare C w I) I (fun _ => none) ⟨[], []⟩ a w where
  imm := hI
  base := Imm.leRefl I
  inew := fun _ _ _ h => .inl h
  fr := ⟨rfl, rfl, rfl, Nat.le_refl _, fun _ _ _ => rfl⟩
  mine := fun _ _ h => by cases h
  defs := ⟨hd, fun t e => (bare_fix hfix e).elim⟩
  size := hs
  slots := fun l x hx => by cases l <;> cases hx
  boxes := fun k cs hk => by cases hk
  quiet := fun l x hx => by cases l <;> cases hx
  lk := ⟨fun b hb => hb.elim, fun k e => by cases e⟩
/-- Temporaries that never change any more, in a later world. -/
theorem RI.fresh {F0 : Fx} {I0 : Imm} {w0 : World} (h : RI F0 I0 own σ a w0) (hn : F0.C.n = C.n) (hfix : C.fix = []) (hds : F0.ds = []) {a2 : Act} (hs : a2.tmps.size = C.n) (hd : a2.defers = []) (hle : Imm.le I0 I) (hI : Imm.ok I w) (tm : List (Nat × AV))
    (ht : ∀ t x, look tm t = some x → look σ.tmps t = some x ∧ x.isImm = true ∧ a2.tmps[t]? = a.tmps[t]?) : RI (bare C w I) I (fun _ => none) ⟨tm, []⟩ a2 w := by
  refine (RI.nil (a := a2) hI hfix hs hd).make bare_open tm (fun _ _ e => by cases e) (fun _ _ e => by cases e) hs ⟨hd, fun t e => (bare_fix hfix e).elim⟩ (fun k cs e => by cases e) fun t x hx => ?_
  obtain ⟨h1, h2, h3⟩ := ht t x hx
  obtain ⟨v, e1, e2⟩ := h.slots (.tmp t) x h1
  exact ⟨v, h3.trans e1, .inr (.inl ⟨h2, (((srep_imm h2).1 e2).mono (fun _ h => h) hle).any _⟩)⟩
theorem RI.rstep {I2 : Imm} {w2 : World} (h : RI (bare C w I) I2 own σ a w2) : RStep w I [] w2 I2 [] :=
  ⟨⟨h.fr.os, h.fr.tape, h.fr.output, h.fr.size, fun k hk _ => h.fr.block k hk id⟩, h.base, h.imm, fun b o u e => by
    rcases h.inew b o u e with q | q | q
    · exact .inl q
    · exact .inr (.inl q)
    · exact q.elim, fun g hg => by cases hg⟩
end
end Go.Proofs.Ytjfnmlheehbojaa.VA
