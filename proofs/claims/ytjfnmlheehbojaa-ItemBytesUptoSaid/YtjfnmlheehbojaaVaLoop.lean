/- Loops over functions: the abstract machine is sound. -/
import Derived.Test.YtjfnmlheehbojaaVaRange
namespace Go.Proofs.Ytjfnmlheehbojaa.VA
set_option linter.unusedVariables false
set_option maxHeartbeats 1000000

def mkD (D : Nat) : Deferred := { target := .collected D, args := #[] }
/-- F2 begins later than F; loops over functions have left their marks. -/
structure Ext (F F2 : Fx) : Prop where
  cfg : F2.C = F.C
  mine : ∀ b, F2.mine b → F.mine b
  le : Imm.le F.I0 F2.I0
  inew : ∀ b o v, F2.I0 b o = some v → F.I0 b o = some v ∨ F.mine b
  fr : Fr F.w0 F2.w0 F.S
  opn : F2.open
  a0 : F2.a0 = F.a0
  ds : ∃ ms : List Nat, F2.ds = ms.map mkD ++ F.ds ∧ ms.Nodup ∧ ∀ D, D ∈ ms → F.w0.heap.size ≤ D ∧ F2.w0.heap[D]? = some (.deferred (some [])) ∧ ¬ F2.S D
theorem Ext.refl {F : Fx} (h : F.open) : Ext F F :=
  ⟨rfl, fun _ h => h, Imm.leRefl _, fun _ _ _ h => .inl h, ⟨rfl, rfl, rfl, Nat.le_refl _, fun _ _ _ => rfl⟩, h, rfl, [], rfl, List.nodup_nil, fun D h => by cases h⟩
theorem fr_two {w0 w1 w2 : World} {S S2 : Nat → Prop} (h : Fr w0 w1 S) (k : Fr w1 w2 S2) (hS : ∀ b, b < w0.heap.size → ¬ S b → ¬ S2 b) : Fr w0 w2 S :=
  fr_trans h k.os k.tape k.output k.size fun b hb hn => k.block b (Nat.lt_of_lt_of_le hb h.size) (hS b hb hn)
theorem Ext.trans {F1 F2 F3 : Fx} (h : Ext F1 F2) (k : Ext F2 F3) : Ext F1 F3 := by
  obtain ⟨m2, e2, n2, p2⟩ := h.ds
  obtain ⟨m3, e3, n3, p3⟩ := k.ds
  have hlt : ∀ D, D ∈ m2 → D < F2.w0.heap.size := fun D hD => (Array.getElem?_eq_some_iff.1 (p2 D hD).2.1).1
  refine ⟨k.cfg.trans h.cfg, fun b hb => h.mine b (k.mine b hb), h.le.trans k.le, fun b o v hb => ?_, fr_two h.fr k.fr (fun b hb hn hS => ?_), k.opn, k.a0.trans h.a0,
    m3 ++ m2, by rw [e3, e2, List.map_append, List.append_assoc], List.nodup_append.2 ⟨n3, n2, fun D h3 D' h2 e => ?_⟩, fun D hD => ?_⟩
  · rcases k.inew b o v hb with e | e
    · exact h.inew b o v e
    · exact .inr (h.mine b e)
  · rcases h.mine b (.inr hS) with e | e
    · omega
    · exact hn e
  · have := hlt D' h2
    have := (p3 D h3).1
    omega
  · rcases List.mem_append.1 hD with hD | hD
    · exact ⟨Nat.le_trans h.fr.size (p3 D hD).1, (p3 D hD).2⟩
    · obtain ⟨q1, q2, q3⟩ := p2 D hD
      refine ⟨q1, by rw [k.fr.block D (hlt D hD) q3]; exact q2, fun hS => ?_⟩
      rcases k.mine D (.inr hS) with e | e
      · have := hlt D hD; omega
      · exact q3 e
def PostX (F : Fx) (K : ASt → Prop) (a : Act) (w : World) : Prop := ∃ F2, Ext F F2 ∧ Post F2 K a w
theorem Post.x {F : Fx} {K : ASt → Prop} {a : Act} {w : World} (h : Post F K a w) (hop : F.open) : PostX F K a w := ⟨F, Ext.refl hop, h⟩
theorem PostX.trans {F F2 : Fx} {K : ASt → Prop} {a : Act} {w : World} (hE : Ext F F2) (h : PostX F2 K a w) : PostX F K a w := let ⟨F3, h1, h2⟩ := h; ⟨F3, hE.trans h1, h2⟩
/-- What is owed at an exit. -/
def lift (F : Fx) (Q : AEx → ASt → Prop) : Exit → Act → World → Prop
  | .normal, a, w => PostX F (Q .normal) a w
  | .exit id, a, w => PostX F (Q (.exit id)) a w
  | .ret, a, w => PostX F (Q .ret) a w
  | _, _, _ => False
theorem lift_trans {F F2 : Fx} {Q : AEx → ASt → Prop} (hE : Ext F F2) {e : Exit} {a : Act} {w : World} (h : lift F2 Q e a w) : lift F Q e a w := by
  cases e <;> first | exact PostX.trans hE h | exact h.elim
theorem lift_lets {F : Fx} {Q : AEx → ASt → Prop} : ¬ LetsOut (lift F Q) := fun ⟨_, _, h⟩ => h

section
variable {F : Fx} {I : Imm} {own : Nat → Option Loc} {σ : ASt} {a : Act} {w : World} {C : Cfg}

/-- The base of a round. -/
def rbase (C : Cfg) (ks : List Nat) (w : World) (I : Imm) (own : Nat → Option Loc) (a0 : Array Value) : Fx := ⟨C.round ks, w, I, fun b => own b ≠ none, fun _ => false, fun _ => False, [], a0⟩
theorem rbase_open {ks : List Nat} {a0 : Array Value} : (rbase C ks w I own a0).open := ⟨fun _ => rfl, fun _ h => h⟩
/-- What stays, seen from the loop's begin: w, I the begin; gs0 what rounds may turn. -/
structure Ow (w : World) (I : Imm) (gs0 : List Nat) (gs : List Nat) (J : Imm) (W : World) : Prop where
  fr : Fr w W (· ∈ gs0)
  le : Imm.le I J
  ok : Imm.ok J W
  inew : ∀ b o u, J b o = some u → I b o = some u ∨ w.heap.size ≤ b ∨ b ∈ gs0
  sub : ∀ g, g ∈ gs → (g ∈ gs0 ∨ w.heap.size + 1 ≤ g) ∧ g < W.heap.size
  D : W.heap[w.heap.size]? = some (.deferred (some []))
/-- The variables of a round: what they hold between two rounds. -/
structure Vr (C : Cfg) (ks : List Nat) (a : Act) (l : Nat) (gs : List Nat) (J : Imm) (W : World) (vs : List (Nat × List AV)) : Prop where
  ri : ∃ own2 a2, RI (rbase C ks W J own2 a.tmps) J own2 ⟨[], vs⟩ a2 W ∧ (∀ b loc, own2 b = some loc → b ∈ gs ∧ b ≠ l ∧ ∀ t, loc ≠ .tmp t)
  keys : ∀ k cs, look vs k = some cs → ks.contains k = true
  l : l ∈ gs
theorem Ow.step {w W W2 : World} {I J J2 : Imm} {gs0 gs : List Nat} (h : Ow w I gs0 gs J W) (k : RStep W J [] W2 J2 []) : Ow w I gs0 gs J2 W2 where
  fr := fr_two h.fr k.fr fun b _ _ e => by cases e
  le := h.le.trans k.le
  ok := k.ok
  inew b o u hb := by
    rcases k.inew b o u hb with e | e | e
    · exact h.inew b o u e
    · exact .inr (.inl (Nat.le_trans h.fr.size e))
    · cases e
  sub g hg := ⟨(h.sub g hg).1, Nat.lt_of_lt_of_le (h.sub g hg).2 k.fr.size⟩
  D := by rw [k.fr.block _ (Array.getElem?_eq_some_iff.1 h.D).1 (fun e => by cases e)]; exact h.D
theorem Vr.step {ks : List Nat} {l : Nat} {gs : List Nat} {J J2 : Imm} {W W2 : World} {vs : List (Nat × List AV)} (h : Vr C ks a l gs J W vs) (k : RStep W J [] W2 J2 []) : Vr C ks a l gs J2 W2 vs := by
  obtain ⟨⟨own2, a2, h1, h2⟩, h3, h4⟩ := h
  have h5 := h1.called (gs := []) (fun g hg => by cases hg) k.fr k.le k.ok k.inew
  exact ⟨⟨own2, a2, h5.turn (F2 := rbase C ks W2 J2 own2 a.tmps) rfl rfl rfl rbase_open (fun b loc hb => by show own2 b ≠ none; rw [hb]; exact fun e => by cases e) rfl h1.defs (fun _ => rfl) (fun _ => rfl) (Nat.le_refl _), h2⟩, h3, h4⟩

/-- What is owned behind a loop: by the variables, and by the temporaries that no round has seen. -/
def own3 (own own2 : Nat → Option Loc) (b : Nat) : Option Loc :=
  match own2 b with
  | some loc => some loc
  | none => match own b with
    | some (.tmp s) => some (.tmp s)
    | _ => none
theorem own3_of {own own2 : Nat → Option Loc} {b : Nat} {loc : Loc} (h : own2 b = some loc) : own3 own own2 b = some loc := by unfold own3; rw [h]
theorem own3_tmp {own own2 : Nat → Option Loc} {b s : Nat} (h : own2 b = none) (k : own b = some (.tmp s)) : own3 own own2 b = some (.tmp s) := by unfold own3; rw [h, k]
theorem own3_cases {own own2 : Nat → Option Loc} {b : Nat} {loc : Loc} (h : own3 own own2 b = some loc) : own2 b = some loc ∨ ∃ s, own b = some (.tmp s) := by
  unfold own3 at h
  cases e : own2 b with
  | some l2 => rw [e] at h; exact .inl h
  | none =>
    rw [e] at h
    cases e3 : own b with
    | none => rw [e3] at h; cases h
    | some l3 =>
      rw [e3] at h
      cases l3 <;> simp only at h <;> first | exact .inr ⟨_, rfl⟩ | cases h
/-- Behind the loop. -/
theorem after_ok (hC : F.C = C) (hfix : C.fix = []) (hlk : F.open) (h : RI F I own σ a w) {ks : List Nat} (hall : ks.all (fun k => (look σ.vars k).isSome) = true) {gs0 : List Nat} (hgs0 : ∀ g, g ∈ gs0 → ∃ loc, keepB ks own g = some loc)
    {gs : List Nat} {J : Imm} {W : World} {vs : List (Nat × List AV)} (ho : Ow w I gs0 gs J W) (hv : Vr C ks a (w.heap.size + 1) gs J W vs) {r : Loop} (hl : W.heap[w.heap.size + 1]? = some (.loop r)) (r' : Loop) {K : ASt → Prop}
    (hK : K ⟨strike (AV.dropA ks) σ.tmps, vs⟩) : PostX F K { a with defers := mkD w.heap.size :: a.defers } (W.putObj (w.heap.size + 1) (.loop r')) := by
  obtain ⟨⟨own2, a2, hri, hown2⟩, hkeys, hll⟩ := hv
  have hmine0 : ∀ g, g ∈ gs0 → F.mine g ∧ g < w.heap.size ∧ ∀ t, own g ≠ some (.tmp t) := by
    intro g hg
    obtain ⟨loc, e⟩ := hgs0 g hg
    obtain ⟨e1, e2⟩ := keepB_sub e
    obtain ⟨m1, m2⟩ := h.mine g _ e1
    exact ⟨m1, m2, fun t e3 => by rw [e1] at e3; cases e3; exact e2 t rfl⟩
  have hw0 : F.w0.heap.size ≤ w.heap.size := h.fr.size
  have hWsz : w.heap.size ≤ W.heap.size := ho.fr.size
  have hlW := (Array.getElem?_eq_some_iff.1 hl).1
  have hcp := cell?_put (w := W) (o' := .loop r') hl (fun _ _ _ e => by cases e) (fun _ _ _ e => by cases e)
  obtain ⟨F2, hF2⟩ : ∃ F2 : Fx, F2 = ⟨F.C, W.putObj (w.heap.size + 1) (.loop r'), J, fun b => F.mine b ∧ b ≠ w.heap.size, fun _ => false, fun _ => False, mkD w.heap.size :: F.ds, F.a0⟩ := ⟨_, rfl⟩
  have hop2 : F2.open := by rw [hF2]; exact ⟨fun _ => rfl, fun _ h => h⟩
  have hS2 : ∀ b loc, own2 b = some loc → F2.S b := by
    intro b loc hb
    rw [hF2]
    obtain ⟨hg, hne, _⟩ := hown2 b loc hb
    rcases (ho.sub b hg).1 with e | e
    · obtain ⟨m1, m2, _⟩ := hmine0 b e; exact ⟨m1, by omega⟩
    · exact ⟨.inl (by omega), by omega⟩
  have hfx : ∀ t, F2.C.fix.contains t = true → False := fun t e => by
    rw [hF2] at e
    have e : F.C.fix.contains t = true := e
    rw [hC, hfix] at e
    cases e
  have h1 : RI F2 J own2 ⟨[], vs⟩ { tmps := a2.tmps, defers := F2.ds } (W.putObj (w.heap.size + 1) (.loop r')) :=
    hri.turn (by rw [hF2]; show F.C.n = (C.round ks).n; rw [hC]; rfl) (by rw [hF2]) (by rw [hF2]) hop2 hS2 rfl ⟨rfl, fun t e => (hfx t e).elim⟩ (fun p => (hcp p).1) (fun p => (hcp p).2) (by simp)
  have hput : ∀ k, k ≠ w.heap.size + 1 → (W.putObj (w.heap.size + 1) (.loop r')).heap[k]? = W.heap[k]? := fun k hk => World.putObj_heap_other hk
  have hmineF2 : ∀ b, F2.mine b → F.mine b := by
    intro b hb
    rw [hF2] at hb
    rcases hb with hb | hb
    · have hb : (W.putObj (w.heap.size + 1) (.loop r')).heap.size ≤ b := hb
      rw [World.putObj_size] at hb
      exact .inl (by omega)
    · exact hb.1
  have hE : Ext F F2 := by
    refine ⟨by rw [hF2], hmineF2, by rw [hF2]; exact h.base.trans ho.le, fun b o v hb => ?_, ?_, hop2, by rw [hF2], [w.heap.size], by rw [hF2]; rfl, List.nodup_cons.2 ⟨by simp, List.nodup_nil⟩, fun D hD => ?_⟩
    · rw [hF2] at hb
      rcases ho.inew b o v hb with e | e | e
      · exact h.inew b o v e
      · exact .inr (.inl (Nat.le_trans hw0 e))
      · exact .inr (hmine0 b e).1
    · rw [hF2]
      refine fr_trans h.fr (by exact ho.fr.os) ho.fr.tape ho.fr.output (by show _ ≤ (W.putObj _ _).heap.size; rw [World.putObj_size]; exact hWsz) fun k hk hn => ?_
      rw [show (W.putObj (w.heap.size + 1) (.loop r')).heap[k]? = W.heap[k]? from hput k (by omega)]
      refine ho.fr.block k (by omega) fun e => ?_
      rcases (hmine0 k e).1 with e2 | e2
      · omega
      · exact hn e2
    · rw [List.mem_singleton] at hD
      subst hD
      rw [hF2]
      refine ⟨hw0, ?_, fun e => e.2 rfl⟩
      rw [show (W.putObj (w.heap.size + 1) (.loop r')).heap[w.heap.size]? = W.heap[w.heap.size]? from hput _ (by omega)]
      exact ho.D
  have hnone2 : ∀ g, g < w.heap.size → g ∉ gs0 → own2 g = none := by
    intro g hg hn
    cases e : own2 g with
    | none => rfl
    | some loc =>
      rcases (ho.sub g (hown2 g loc e).1).1 with e2 | e2
      · exact (hn e2).elim
      · omega
  refine ⟨F2, hE, J, own3 own own2, ⟨strike (AV.dropA ks) σ.tmps, vs⟩, ?_, hK⟩
  refine h1.make (a2 := { a with defers := mkD w.heap.size :: a.defers }) hop2 _ (fun b l hb => own3_of hb) (fun b l hb => ?_) (by rw [hF2]; exact h.size) ⟨by rw [hF2]; show mkD w.heap.size :: a.defers = _; rw [h.defs.1], fun t e => (hfx t e).elim⟩ (fun k cs hk => ?_) (fun t x hx => ?_)
  · rcases own3_cases hb with e | ⟨s, e⟩
    · exact h1.mine b _ e
    · obtain ⟨m1, m2⟩ := h.mine b _ e
      refine ⟨?_, by rw [World.putObj_size]; omega⟩
      rw [hF2]
      exact .inr ⟨m1, by omega⟩
  · exact (hri.defs.2 k (hkeys k cs hk)).symm
  · rw [look_strike] at hx
    cases hy : look σ.tmps t with
    | none => rw [hy] at hx; cases hx
    | some y =>
      rw [hy] at hx
      simp only [Option.map_some, Option.some.injEq] at hx
      obtain ⟨v, hv1, hv2⟩ := h.slots (.tmp t) y hy
      refine ⟨v, hv1, ?_⟩
      have him : y.isImm = true → TRep F2 J (own3 own own2) vs { a with defers := mkD w.heap.size :: a.defers } (W.putObj (w.heap.size + 1) (.loop r')) t x v := by
        intro hi
        have hd : AV.dropA ks y = false := by cases y <;> first | rfl | (cases hi; done)
        rw [if_neg (by rw [hd]; decide)] at hx
        rw [← hx]
        exact .inr (.inl ⟨hi, (((srep_imm hi).1 hv2).mono (fun _ h => h) ho.le).any _⟩)
      have hbot : AV.dropA ks y = true → TRep F2 J (own3 own own2) vs { a with defers := mkD w.heap.size :: a.defers } (W.putObj (w.heap.size + 1) (.loop r')) t x v := fun hd => by
        rw [if_pos hd] at hx
        exact .inl hx.symm
      cases y with
      | own sh sz es =>
        rw [if_neg (by simp only [AV.dropA, Bool.false_eq_true, not_false_eq_true])] at hx
        rw [← hx]
        refine .inr (.inr (.inr ⟨sh, sz, es, rfl, ?_⟩))
        rcases hv2 with e | ⟨g, cap, e1, e2, e3⟩
        · exact .inl e
        · have hgl := (h.mine g _ e2).2
          have hn0 : g ∉ gs0 := fun e => (hmine0 g e).2.2 t e2
          have hb : (W.putObj (w.heap.size + 1) (.loop r')).heap[g]? = w.heap[g]? := (hput g (by omega)).trans (ho.fr.block g hgl hn0)
          refine .inr ⟨g, cap, e1, own3_tmp (hnone2 g hgl hn0) e2, (e3.keep (fun _ h => h) ho.le (fun o hI => ?_) (fun o => World.cell?_of_block hb) (fun o => World.frozen?_of_block hb)).any _⟩
          cases eJ : J g o with
          | none => rfl
          | some u =>
            rcases ho.inew g o u eJ with q | q | q
            · rw [hI] at q; cases q
            · omega
            · exact (hn0 q).elim
      | var k off =>
        cases hk : ks.contains k with
        | false => exact hbot (by simp only [AV.dropA, hk, Bool.not_false])
        | true =>
          rw [if_neg (by simp only [AV.dropA, hk, Bool.not_true, Bool.false_eq_true, not_false_eq_true])] at hx
          rw [← hx]
          refine .inr (.inr (.inl ⟨k, off, rfl, fun cs hcs => ?_⟩))
          have := List.all_eq_true.1 hall k (by simpa using hk)
          cases hs : look σ.vars k with
          | none => rw [hs] at this; cases this
          | some cs0 => exact hv2 cs0 hs
      | bot => exact hbot rfl
      | undef => exact hbot rfl
      | tup vs => exact hbot rfl
      | ref l => exact hbot rfl
      | elt x i off => exact hbot rfl
      | _ => exact him rfl

def jumpOf : AEx → Option Code
  | .normal => none
  | .exit id => some (.exit id)
  | .ret => some .ret
/-- One round: its end. -/
theorem round_end {ks : List Nat} {gs0 gs : List Nat} {J J1 : Imm} {W w1 w2 w3 : World} {own2 own1 : Nat → Option Loc} {F1 : Fx}
    (ho : Ow w I gs0 gs J W) (hgl : ∀ g, g ∈ gs0 → g < w.heap.size) (hl0 : w.heap.size + 1 ∈ gs) {r0 : Loop} (hl : W.heap[w.heap.size + 1]? = some (.loop r0))
    (hown2 : ∀ b loc, own2 b = some loc → b ∈ gs ∧ b ≠ w.heap.size + 1 ∧ ∀ t, loc ≠ .tmp t) {τ : ASt} {a1 : Act}
    (h1 : RI (rbase C ks W J own2 a.tmps) J1 own1 τ a1 w1) {rb : Loop} (hw2 : w2 = w1.putObj (w.heap.size + 1) (.loop rb)) (hE : Ext (rbase C ks w2 J1 own1 a.tmps) F1)
    {J2 : Imm} {own3 : Nat → Option Loc} {τ2 : ASt} {a3 : Act} (h3 : RI F1 J2 own3 τ2 a3 w3) (r4 : Loop) :
    w3.heap[w.heap.size + 1]? = some (.loop rb) ∧
    ∃ gs', RStep W J gs (w3.putObj (w.heap.size + 1) (.loop r4)) J2 gs' ∧ Ow w I gs0 gs' J2 (w3.putObj (w.heap.size + 1) (.loop r4)) ∧ Vr C ks a (w.heap.size + 1) gs' J2 (w3.putObj (w.heap.size + 1) (.loop r4)) (keepV ks τ2.vars) := by
  have hlW := (Array.getElem?_eq_some_iff.1 hl).1
  have hn2 : own2 (w.heap.size + 1) = none := by
    cases e : own2 (w.heap.size + 1) with
    | none => rfl
    | some loc => exact ((hown2 _ loc e).2.1 rfl).elim
  have hb1 : ∀ b, own1 b ≠ none → W.heap.size ≤ b ∨ own2 b ≠ none := fun b hb => by
    cases e : own1 b with
    | none => exact (hb e).elim
    | some loc => exact (h1.mine b loc e).1
  have hn1 : own1 (w.heap.size + 1) = none := by
    cases e : own1 (w.heap.size + 1) with
    | none => rfl
    | some loc =>
      rcases hb1 _ (by rw [e]; exact fun e => by cases e) with q | q
      · omega
      · exact (q hn2).elim
  have hsz1 : W.heap.size ≤ w1.heap.size := h1.fr.size
  have hl1 : w1.heap[w.heap.size + 1]? = some (.loop r0) := (h1.fr.block _ hlW (fun e => e hn2)).trans hl
  have hsz2 : w2.heap.size = w1.heap.size := by rw [hw2, World.putObj_size]
  have hl2 : w2.heap[w.heap.size + 1]? = some (.loop rb) := by rw [hw2]; exact World.putObj_heap_same (by omega)
  have hsz21 : w2.heap.size ≤ F1.w0.heap.size := hE.fr.size
  have hnF : ∀ b, F1.S b → W.heap.size ≤ b ∨ own2 b ≠ none := fun b hb => by
    rcases hE.mine b (.inr hb) with q | q
    · have q : w2.heap.size ≤ b := q
      exact .inl (by omega)
    · exact hb1 b q
  have hlF : F1.w0.heap[w.heap.size + 1]? = some (.loop rb) := (hE.fr.block _ (by show _ < w2.heap.size; omega) (fun e => e hn1)).trans hl2
  have hl3 : w3.heap[w.heap.size + 1]? = some (.loop rb) := by
    rw [h3.fr.block _ (by omega) (fun e => ?_)]
    · exact hlF
    · rcases hE.mine _ (.inr e) with q | q
      · have q : w2.heap.size ≤ w.heap.size + 1 := q
        omega
      · exact q hn1
  have hsz3 : F1.w0.heap.size ≤ w3.heap.size := h3.fr.size
  refine ⟨hl3, ?_⟩
  have hput : ∀ k, k ≠ w.heap.size + 1 → (w3.putObj (w.heap.size + 1) (.loop r4)).heap[k]? = w3.heap[k]? := fun k hk => World.putObj_heap_other hk
  have hcp := cell?_put (w := w3) (o' := .loop r4) hl3 (fun _ _ _ e => by cases e) (fun _ _ _ e => by cases e)
  have hF1n : F1.C = C.round ks := hE.cfg
  -- what the variables hold
  have hv := h3.vars0 hE.opn ks
  obtain ⟨gs', hgs'⟩ : ∃ gs' : List Nat, ∀ b, b ∈ gs' ↔ b = w.heap.size + 1 ∨ (b < w3.heap.size ∧ keepB ks own3 b ≠ none) := by
    refine ⟨(w.heap.size + 1) :: (List.range w3.heap.size).filter (fun b => (keepB ks own3 b).isSome), fun b => ?_⟩
    rw [List.mem_cons, List.mem_filter, List.mem_range, Option.isSome_iff_ne_none]
  have hown3 : ∀ b, own3 b ≠ none → (W.heap.size ≤ b ∨ own2 b ≠ none) ∧ b < w3.heap.size ∧ b ≠ w.heap.size + 1 := fun b hb => by
    cases e : own3 b with
    | none => exact (hb e).elim
    | some loc =>
      obtain ⟨m1, m2⟩ := h3.mine b loc e
      have m3 : W.heap.size ≤ b ∨ own2 b ≠ none := by
        rcases hE.mine b m1 with q | q
        · have q : w2.heap.size ≤ b := q
          exact .inl (by omega)
        · exact hb1 b q
      refine ⟨m3, m2, fun e2 => ?_⟩
      subst e2
      rcases m3 with q | q
      · omega
      · exact q hn2
  have hin : ∀ b, own2 b ≠ none → b ∈ gs := fun b hb => by
    cases e : own2 b with
    | none => exact (hb e).elim
    | some loc => exact (hown2 b loc e).1
  have hk3 : ∀ b loc, keepB ks own3 b = some loc → own3 b ≠ none := fun b loc e => by rw [(keepB_sub e).1]; exact fun e => by cases e
  have hmem : ∀ g, g ∈ gs' → (g ∈ gs ∨ W.heap.size ≤ g) ∧ g < (w3.putObj (w.heap.size + 1) (.loop r4)).heap.size := by
    intro g hg
    rw [World.putObj_size]
    rcases (hgs' g).1 hg with rfl | ⟨q1, q2⟩
    · exact ⟨.inl hl0, by omega⟩
    · cases e : keepB ks own3 g with
      | none => exact (q2 e).elim
      | some loc =>
        refine ⟨?_, q1⟩
        rcases (hown3 g (hk3 g loc e)).1 with q | q
        · exact .inr q
        · exact .inl (hin g q)
  have hJ1 : ∀ b o u, J1 b o = some u → J b o = some u ∨ W.heap.size ≤ b ∨ b ∈ gs := fun b o u e => by
    rcases h1.inew b o u e with q | q | q
    · exact .inl q
    · exact .inr (.inl q)
    · exact .inr (.inr (hin b q))
  have hFJ : ∀ b o u, F1.I0 b o = some u → J b o = some u ∨ W.heap.size ≤ b ∨ b ∈ gs := fun b o u e => by
    rcases hE.inew b o u e with q | q | q
    · exact hJ1 b o u q
    · have q : w2.heap.size ≤ b := q
      exact .inr (.inl (by omega))
    · rcases hb1 b q with q | q
      · exact .inr (.inl q)
      · exact .inr (.inr (hin b q))
  have hst : RStep W J gs (w3.putObj (w.heap.size + 1) (.loop r4)) J2 gs' := by
    refine ⟨?_, (h1.base.trans hE.le).trans h3.base, fun b o v e => by rw [(hcp _).1]; exact h3.imm b o v e, fun b o u e => ?_, hmem⟩
    · have f1 : Fr W w1 (· ∈ gs) := ⟨h1.fr.os, h1.fr.tape, h1.fr.output, h1.fr.size, fun k hk hn => h1.fr.block k hk fun e => hn (hin k e)⟩
      have f2 : Fr W w2 (· ∈ gs) := fr_trans f1 (by rw [hw2]; rfl) (by rw [hw2]; rfl) (by rw [hw2]; rfl) (by omega) fun k hk hn => by
        rw [hw2]; exact World.putObj_heap_other fun e => hn (by rw [e]; exact hl0)
      have f3 : Fr W F1.w0 (· ∈ gs) := fr_two f2 hE.fr fun b hb hn e => by
        rcases hb1 b e with q | q
        · omega
        · exact hn (hin b q)
      have f4 : Fr W w3 (· ∈ gs) := fr_two f3 h3.fr fun b hb hn e => by
        rcases hnF b e with q | q
        · omega
        · exact hn (hin b q)
      exact fr_trans f4 rfl rfl rfl (by rw [World.putObj_size]; omega) fun k hk hn => hput k fun e => hn (by rw [e]; exact hl0)
    · rcases h3.inew b o u e with q | q | q
      · exact hFJ b o u q
      · exact .inr (.inl (by omega))
      · rcases hnF b q with q | q
        · exact .inr (.inl q)
        · exact .inr (.inr (hin b q))
  refine ⟨gs', hst, ?_, ?_⟩
  · have hg0 : ∀ g, g ∈ gs → g < w.heap.size → g ∈ gs0 := fun g hg hlt => by
      rcases (ho.sub g hg).1 with q | q
      · exact q
      · omega
    refine ⟨fr_two ho.fr hst.fr fun b hb hn e => hn (hg0 b e hb), ho.le.trans hst.le, hst.ok, fun b o u e => ?_, fun g hg => ⟨?_, (hmem g hg).2⟩, ?_⟩
    · rcases hst.inew b o u e with q | q | q
      · exact ho.inew b o u q
      · exact .inr (.inl (Nat.le_trans ho.fr.size q))
      · rcases (ho.sub b q).1 with q | q
        · exact .inr (.inr q)
        · exact .inr (.inl (by omega))
    · rcases (hmem g hg).1 with q | q
      · exact (ho.sub g q).1
      · exact .inr (by omega)
    · rw [hst.fr.block _ (Array.getElem?_eq_some_iff.1 ho.D).1 (fun e => ?_)]
      · exact ho.D
      · rcases (ho.sub _ e).1 with q | q
        · exact absurd (hgl _ q) (by omega)
        · omega
  · refine ⟨⟨keepB ks own3, { tmps := a3.tmps, defers := [] }, hv.turn (F2 := rbase C ks (w3.putObj (w.heap.size + 1) (.loop r4)) J2 (keepB ks own3) a.tmps) (by show (C.round ks).n = F1.C.n; rw [hF1n]) rfl rfl rbase_open (fun b loc hb => by show keepB ks own3 b ≠ none; rw [hb]; exact fun e => by cases e) rfl ⟨rfl, fun t e => ?_⟩ (fun p => (hcp p).1) (fun p => (hcp p).2) (by rw [World.putObj_size]; omega),
      fun b loc hb => ⟨(hgs' b).2 (.inr ⟨(hown3 b (hk3 b loc hb)).2.1, by rw [hb]; exact fun e => by cases e⟩), (hown3 b (hk3 b loc hb)).2.2, (keepB_sub hb).2⟩⟩, fun k cs hk => (look_keepV ks _ k cs hk).2, (hgs' _).2 (.inl rfl)⟩
    have := h3.defs.2 t (by rw [hF1n]; exact e)
    rw [hE.a0] at this
    exact this

def noDeferB (ops : Array Oper) : Bool := ops.all fun o => match o.op with | .defer _ => false | _ => true
theorem noDefer_of {ops : Array Oper} (h : noDeferB ops = true) : ∀ o, o ∈ ops → ∀ c, o.op ≠ .defer c := fun o ho c e => by
  have := Array.all_eq_true_iff_forall_mem.1 h o ho
  rw [e] at this
  cases this
def lrec (fn : FuncId) (tmps : Array Value) (t : Nat) (assign body : Code) (D : Nat) (st : LoopState) (pe : Option Code) : Loop := { state := st, pending := pe, fn, tmps, params := #[t], assign, body, defers := D }
/-- A loop over a function. -/
theorem range_ok (hok : CfgOk C) {g : Operand} {ps : Array Tmp} {rid : Nat} {ops : Array Oper} {body : Code} (hnd : noDeferB ops = true)
    (ihb : ∀ (C' : Cfg), CfgOk C' → C'.inr = true → C'.P = C.P → ∀ (F' : Fx), F'.C = C' → F'.open → ∀ (r : Option Nat) (Q : AEx → ASt → Prop) (σ : ASt) (I : Imm) (own : Nat → Option Loc) (a : Act) (w : World), RI F' I own σ a w → aco C' body Q σ → body.wpIn (fen r) 0 C.P (lift F' Q) a w)
    (hC : F.C = C) (hlk : F.open) {Q : AEx → ASt → Prop} (h : RI F I own σ a w) (hw : aco C (.rangeFunc g ps (.region rid ops false) body) Q σ) :
    (Code.rangeFunc g ps (.region rid ops false) body).wpIn (fen none) 0 C.P (lift F Q) a w := by
  obtain ⟨ks, t, p, xs, st, ⟨hinr, hfix, rfl, htn, htk, hall, hg, hit, hst⟩, hsteps, hend⟩ := hw
  have hgv : AR F.mine I (.ext p) (a.eval g) := (rv_imm rfl).1 (hg ▸ rd_ok h C 0 g)
  generalize hgval : a.eval g = gval at hgv
  cases hgv with
  | ext _ J0 _ hJ h1 hp =>
  obtain ⟨gf, lb, rfl, heg, hcall⟩ := hit J0 gval hp
  refine wpIn_rangeFunc (fun fn _ => ?_)
  obtain ⟨rec, hrec⟩ : ∃ rec : LoopState → Option Code → Loop, rec = lrec fn a.tmps t (.region rid ops false) body w.heap.size := ⟨_, rfl⟩
  have hr1 : ∀ s p s' p', { rec s p with state := s', pending := p' } = rec s' p' := by rw [hrec]; exact fun _ _ _ _ => rfl
  have hr2 : ∀ s p s', { rec s p with state := s' } = rec s' p := by rw [hrec]; exact fun _ _ _ => rfl
  have hr3 : ∀ s p, (rec s p).state = s ∧ (rec s p).pending = p ∧ (rec s p).params = #[t] ∧ (rec s p).fn = fn ∧ (rec s p).tmps = a.tmps ∧ (rec s p).assign = .region rid ops false ∧ (rec s p).body = body := by
    rw [hrec]; exact fun _ _ => ⟨rfl, rfl, rfl, rfl, rfl, rfl, rfl⟩
  obtain ⟨W1, hW1⟩ : ∃ W1, (w.alloc (.deferred (some []))).alloc (.loop (rec .ready none)) = W1 := ⟨_, rfl⟩
  have hL1 : W1.heap[w.heap.size + 1]? = some (.loop (rec .ready none)) := by
    rw [← hW1]; have := World.alloc_heap_new (w.alloc (.deferred (some []))) (.loop (rec .ready none)); rwa [World.size_alloc] at this
  have hK1 : W1.heap[w.heap.size]? = some (.deferred (some [])) := by
    rw [← hW1]
    exact ((fr_alloc (w.alloc (.deferred (some []))) (.loop (rec .ready none))).block _ (by rw [World.size_alloc]; omega) id).trans (World.alloc_heap_new w _)
  have hcp : ∀ q, W1.cell? q = w.cell? q ∧ W1.frozen? q = w.frozen? q := fun q => by
    rw [← hW1]
    have e1 := cell?_newObj (w := w.alloc (.deferred (some []))) (o := .loop (rec .ready none)) (fun _ _ _ e => by cases e) q
    have e2 := cell?_newObj (w := w) (o := .deferred (some [])) (fun _ _ _ e => by cases e) q
    exact ⟨e1.1.trans e2.1, e1.2.trans e2.2⟩
  have hsz1 : W1.heap.size = w.heap.size + 2 := by rw [← hW1, World.size_alloc, World.size_alloc]
  have hfr1 : Fr w W1 fun _ => False := by
    rw [← hW1]
    exact fr_two (fr_alloc w _) (fr_alloc _ _) fun _ _ h => h
  -- what rounds may turn
  obtain ⟨gs0, hgs0⟩ : ∃ gs0 : List Nat, ∀ b, b ∈ gs0 ↔ b < w.heap.size ∧ keepB ks own b ≠ none := by
    refine ⟨(List.range w.heap.size).filter (fun b => (keepB ks own b).isSome), fun b => ?_⟩
    rw [List.mem_filter, List.mem_range, Option.isSome_iff_ne_none]
  have hgk : ∀ b, b ∈ gs0 → ∃ loc, keepB ks own b = some loc := fun b hb => Option.ne_none_iff_exists'.1 ((hgs0 b).1 hb).2
  have hgl : ∀ b, b ∈ gs0 → b < w.heap.size := fun b hb => ((hgs0 b).1 hb).1
  have ho0 : Ow w I gs0 ((w.heap.size + 1) :: gs0) I W1 := by
    refine ⟨⟨hfr1.os, hfr1.tape, hfr1.output, hfr1.size, fun k hk _ => hfr1.block k hk id⟩, Imm.leRefl I, fun b o v e => by rw [(hcp _).1]; exact h.imm b o v e, fun b o u e => .inl e, fun q hq => ?_, hK1⟩
    rcases List.mem_cons.1 hq with rfl | hq
    · exact ⟨.inr (by omega), by omega⟩
    · have := hgl q hq; exact ⟨.inl hq, by omega⟩
  have hv0 : Vr C ks a (w.heap.size + 1) ((w.heap.size + 1) :: gs0) I W1 (st 0) := by
    have h0 := h.vars0 hlk ks
    rw [hst] at h0
    refine ⟨⟨keepB ks own, { tmps := a.tmps, defers := [] }, h0.turn (F2 := rbase C ks W1 I (keepB ks own) a.tmps) (by show (C.round ks).n = F.C.n; rw [hC]; rfl) rfl rfl rbase_open (fun b loc hb => by show keepB ks own b ≠ none; rw [hb]; exact fun e => by cases e) rfl ⟨rfl, fun _ _ => rfl⟩ (fun q => (hcp q).1) (fun q => (hcp q).2) (by omega), fun b loc hb => ?_⟩, fun k cs hk => ?_, List.mem_cons.2 (.inl rfl)⟩
    · have hm := (h.mine b loc (keepB_sub hb).1).2
      exact ⟨List.mem_cons.2 (.inr ((hgs0 b).2 ⟨hm, by rw [hb]; exact fun e => by cases e⟩)), by omega, (keepB_sub hb).2⟩
    · rw [← hst] at hk
      exact (look_keepV ks _ k cs hk).2
  -- between two rounds; a round has ended the loop
  obtain ⟨Inv, hInv⟩ : ∃ Inv : Nat → List Nat → Imm → World → Prop, Inv = fun i gs J W => Ow w I gs0 gs J W ∧ W.heap[w.heap.size + 1]? = some (.loop (rec .ready none)) ∧ Vr C ks a (w.heap.size + 1) gs J W (st i) := ⟨_, rfl⟩
  obtain ⟨Stop, hStop⟩ : ∃ Stop : List Nat → Imm → World → Prop, Stop = fun gs J W => ∃ e c vs, jumpOf e = some c ∧ Ow w I gs0 gs J W ∧ W.heap[w.heap.size + 1]? = some (.loop (rec .done (some c))) ∧ Vr C ks a (w.heap.size + 1) gs J W vs ∧ Q e ⟨strike (AV.dropA ks) σ.tmps, vs⟩ := ⟨_, rfl⟩
  have main := hcall (w.heap.size + 1) Inv Stop ((w.heap.size + 1) :: gs0) I W1 (fun b o v e => by rw [(hcp _).1]; exact h.imm b o v e) hJ (fun q hq => (ho0.sub q hq).2) (by rw [hInv]; exact ⟨ho0, hL1, hv0⟩)
    (by
      rw [hInv]
      rintro i gs J W J2 W2 ⟨e1, e2, e3⟩ k
      exact ⟨e1.step k, by rw [k.fr.block _ (Array.getElem?_eq_some_iff.1 e2).1 (fun e => by cases e)]; exact e2, e3.step k⟩)
    (by
      rw [hStop]
      rintro gs J W J2 W2 ⟨e, c, vs, e0, e1, e2, e3, e4⟩ k
      exact ⟨e, c, vs, e0, e1.step k, by rw [k.fr.block _ (Array.getElem?_eq_some_iff.1 e2).1 (fun e => by cases e)]; exact e2, e3.step k, e4⟩)
    (by
      intro i x u gs J W hx hinv hJok hxu
      rw [hInv] at hinv
      obtain ⟨ho, hl, hv⟩ := hinv
      obtain ⟨hximm, hrun⟩ := hsteps i x hx
      obtain ⟨⟨own2, a2, hri, hown2⟩, hkeys, hl0⟩ := hv
      have hps : (#[u] : Array Value).size = (rec .ready none).params.size := by rw [(hr3 _ _).2.2.1]; rfl
      refine ⟨_, _, _, _, run_yield hl hps, ?_⟩
      obtain ⟨_, _, p3, p4, p5, p6, p7⟩ := hr3 .ready none
      rw [p3, p4, p5, p6, p7]
      have htm : (((#[t] : Array Tmp).zip #[u]).foldl (fun tmps (x : Tmp × Value) => tmps.setIfInBounds x.1 x.2) a.tmps) = a.tmps.setIfInBounds t u := by simp
      refine roundIn_of_wpIn (F := Fence.wide) trivial ?_
      show (Code.region rid ops false).wpIn (fen (some (w.heap.size + 1))) 0 C.P _ { tmps := (((#[t] : Array Tmp).zip #[u]).foldl (fun tmps (x : Tmp × Value) => tmps.setIfInBounds x.1 x.2) a.tmps), defers := [] } W
      rw [htm]
      have htsz : t < a.tmps.size := by rw [h.size, hC]; exact htn
      have hri2 : RI (rbase C ks W J own2 a.tmps) J own2 ⟨ins t x (strike (AV.dropR ks) σ.tmps), st i⟩ { tmps := a.tmps.setIfInBounds t u, defers := [] } W := by
        have hne : ∀ k, ks.contains k = true → (a.tmps.setIfInBounds t u)[k]? = a.tmps[k]? := fun k hk => Array.getElem?_setIfInBounds_ne (fun e => by rw [← e, htk] at hk; cases hk)
        refine hri.make rbase_open _ (fun _ _ e => e) hri.mine (by rw [Array.size_setIfInBounds, h.size, hC]; rfl) ⟨rfl, fun k hk => hne k hk⟩ (fun k cs hk => ?_) (fun s y hy => ?_)
        · rw [hne k (hkeys k cs hk)]
          exact (hri.defs.2 k (hkeys k cs hk)).symm
        · rw [look_ins] at hy
          split at hy
          · rename_i e
            subst e
            cases hy
            exact ⟨u, by simp [htsz], .inr (.inl ⟨hximm, hxu.any _⟩)⟩
          · rename_i hst2
            rw [look_strike] at hy
            cases hy2 : look σ.tmps s with
            | none => rw [hy2] at hy; cases hy
            | some z =>
              rw [hy2] at hy
              simp only [Option.map_some, Option.some.injEq] at hy
              obtain ⟨v, hv1, hv2⟩ := h.slots (.tmp s) z hy2
              refine ⟨v, by rw [Array.getElem?_setIfInBounds_ne (fun e => hst2 e.symm)]; exact hv1, ?_⟩
              by_cases hd : AV.dropR ks z = true
              · rw [if_pos hd] at hy; exact .inl hy.symm
              · rw [if_neg hd] at hy
                rw [← hy]
                cases z with
                | bool b => exact .inr (.inl ⟨rfl, (((srep_imm rfl).1 hv2).mono (fun _ h => h) ho.le).any _⟩)
                | int k n => exact .inr (.inl ⟨rfl, (((srep_imm rfl).1 hv2).mono (fun _ h => h) ho.le).any _⟩)
                | str b => exact .inr (.inl ⟨rfl, (((srep_imm rfl).1 hv2).mono (fun _ h => h) ho.le).any _⟩)
                | var k off =>
                  have hk : ks.contains k = true := by
                    simp only [AV.dropR, Bool.not_eq_true', Bool.not_eq_false] at hd; exact hd
                  refine .inr (.inr (.inl ⟨k, off, rfl, fun cs hcs => ?_⟩))
                  have := List.all_eq_true.1 hall k (by simpa using hk)
                  cases hs : look σ.vars k with
                  | none => rw [hs] at this; cases this
                  | some cs0 =>
                    obtain ⟨b, q1, q2⟩ := hv2 cs0 hs
                    exact ⟨b, (hne k hk).trans q1, q2⟩
                | _ => exact (hd rfl).elim
      refine region_in (noDefer_of hnd) (fun ⟨_, _, e⟩ => e) ?_
      refine aops_ok (F := rbase C ks W J own2 a.tmps) (C := C.round ks) rfl ⟨hok.mixed, hok.fit⟩ rbase_open ?_ ops.toList _ J own2 _ W hri2 hrun
      rintro a1 w1 ⟨J1, own1, τ, q1, q2⟩
      have hl1 : w1.heap[w.heap.size + 1]? = some (.loop (rec .ready none)) := (q1.fr.block _ (Array.getElem?_eq_some_iff.1 hl).1 (fun e => by
        show False
        cases e2 : own2 (w.heap.size + 1) with
        | none => exact e e2
        | some loc => exact (hown2 _ loc e2).2.1 rfl)).trans hl
      refine ⟨_, run_beginRound hl1 (hr3 _ _).1, ?_⟩
      rw [hr2]
      have hcb := cell?_put (w := w1) (o' := .loop (rec .busy none)) hl1 (fun _ _ _ e => by cases e) (fun _ _ _ e => by cases e)
      have q3 : RI (rbase C ks (w1.putObj (w.heap.size + 1) (.loop (rec .busy none))) J1 own1 a.tmps) J1 own1 (τ.keep C.live) a1 (w1.putObj (w.heap.size + 1) (.loop (rec .busy none))) :=
        (q1.keep _).turn rfl rfl rfl rbase_open (fun b loc hb => by show own1 b ≠ none; rw [hb]; exact fun e => by cases e) rfl q1.defs (fun q => (hcb q).1) (fun q => (hcb q).2) (by rw [World.putObj_size]; exact Nat.le_refl _)
      refine wpIn_mono (ihb (C.round ks) ⟨hok.mixed, hok.fit⟩ rfl rfl _ rfl rbase_open (some (w.heap.size + 1)) _ _ J1 own1 a1 _ q3 q2) ?_
      intro e a3 w3 he
      have fin : ∀ (F1 : Fx) (J2 : Imm) (own3 : Nat → Option Loc) (τ2 : ASt), Ext (rbase C ks (w1.putObj (w.heap.size + 1) (.loop (rec .busy none))) J1 own1 a.tmps) F1 → RI F1 J2 own3 τ2 a3 w3 → ∀ r4, _ := fun F1 J2 own3 τ2 e1 e2 r4 => round_end ho hgl hl0 hl hown2 q1 rfl e1 e2 r4
      have stop : ∀ (ex : AEx) (c : Code), jumpOf ex = some c → PostX (rbase C ks (w1.putObj (w.heap.size + 1) (.loop (rec .busy none))) J1 own1 a.tmps) (roundQ ks (strike (AV.dropA ks) σ.tmps) (st (i + 1)) Q ex) a3 w3 →
          ∃ v w', (Instr.endRound (w.heap.size + 1) (some c)).run C.P w3 = .ok v w' ∧ ∃ b, Ending.returned v = .returned (.bool b) ∧ ∃ gs' I', RStep W J gs w' I' gs' ∧ ((b = true ∧ Inv (i + 1) gs' I' w') ∨ (b = false ∧ Stop gs' I' w')) := by
        rintro ex c hj ⟨F1, hE, J2, own3, τ2, k1, k2⟩
        obtain ⟨k3, gs', k4, k5, k6⟩ := fin F1 J2 own3 τ2 hE k1 (rec .done (some c))
        refine ⟨_, _, run_endRound (some c) k3, false, rfl, gs', J2, ?_⟩
        rw [hr1, show (if (some c).isNone = true then LoopState.ready else LoopState.done) = LoopState.done from rfl]
        refine ⟨k4, .inr ⟨rfl, ?_⟩⟩
        rw [hStop]
        refine ⟨ex, c, keepV ks τ2.vars, hj, k5, World.putObj_heap_same (Array.getElem?_eq_some_iff.1 k3).1, k6, ?_⟩
        cases ex with
        | normal => cases hj
        | exit id => exact k2
        | ret => exact k2
      cases e with
      | normal =>
        obtain ⟨F1, hE, J2, own3, τ2, k1, k2⟩ := he
        obtain ⟨k3, gs', k4, k5, k6⟩ := fin F1 J2 own3 τ2 hE k1 (rec .ready none)
        refine ⟨_, _, run_endRound none k3, true, rfl, gs', J2, ?_⟩
        rw [hr1, show (if (none : Option Code).isNone = true then LoopState.ready else LoopState.done) = LoopState.ready from rfl]
        refine ⟨k4, .inl ⟨rfl, ?_⟩⟩
        rw [hInv]
        have k2 : keepV ks τ2.vars = st (i + 1) := k2
        rw [k2] at k6
        exact ⟨k5, World.putObj_heap_same (Array.getElem?_eq_some_iff.1 k3).1, k6⟩
      | ret => exact stop .ret .ret rfl he
      | exit id => exact stop (.exit id) (.exit id) rfl he
      | goto l => exact he.elim
      | panic ch => exact he.elim
      | outgrown => exact he.elim)
  have main2 : Calls C.P gf (#[.func (.yield (w.heap.size + 1)) #[] #[]] ++ lb) W1 (rangePost (fen none) 0 C.P (w.heap.size + 1) (lift F Q) { a with defers := mkD w.heap.size :: a.defers }) := by
    have hel : ∀ (W : World) s p, W.heap[w.heap.size + 1]? = some (.loop (rec s p)) → s ≠ .busy → (Instr.endLoop (w.heap.size + 1)).run C.P W = .ok p (W.putObj (w.heap.size + 1) (.loop (rec .exhausted p))) := fun W s p e hs => by
      have e9 := run_endLoop (P := C.P) e (by rw [(hr3 _ _).1]; exact hs)
      rw [hr2, (hr3 _ _).2.1] at e9
      exact e9
    refine main.mono ?_
    rintro e W ⟨v, gs, J, rfl, hfin⟩
    rcases hfin with hfin | hfin
    · rw [hInv] at hfin
      obtain ⟨e1, e2, e3⟩ := hfin
      refine ⟨none, _, hel W _ _ e2 (fun e => by cases e), ?_⟩
      · exact after_ok hC hfix hlk h hall hgk e1 e3 e2 _ hend
    · rw [hStop] at hfin
      obtain ⟨ex, c, vs, hj, e1, e2, e3, e4⟩ := hfin
      refine ⟨some c, _, hel W _ _ e2 (fun e => by cases e), ?_⟩
      · have ha := after_ok (K := Q ex) hC hfix hlk h hall hgk e1 e3 e2 (rec .exhausted (some c)) e4
        cases ex with
        | normal => cases hj
        | exit id =>
          cases hj
          exact wpIn_exit ha
        | ret =>
          cases hj
          exact wpIn_ret ha
  refine ⟨w.heap.size + 1, [mkD w.heap.size], W1, { target := .fn (.func gf) lb, args := #[.func (.yield (w.heap.size + 1)) #[] #[]] }, W1, gf, #[.func (.yield (w.heap.size + 1)) #[] #[]] ++ lb, W1, ?_, ?_, ?_, ?_, ?_, ?_⟩
  · rw [← hW1, hrec]; exact run_enterLoop_outer _ _ _ _ _
  · simp only [resolve, hgval]
    simp [go_sem]
  · exact fun _ _ => trivial
  · simp [invoke, go_sem, heg]
  · exact fun e => (Bool.false_ne_true e).elim
  · exact callsIn_fen main2
end
end Go.Proofs.Ytjfnmlheehbojaa.VA
