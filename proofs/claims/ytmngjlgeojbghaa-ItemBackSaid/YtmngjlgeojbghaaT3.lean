/- Loops over functions: the abstract machine is sound. The abstract machine is sound: code. Laws by which the abstract machine is carried out, step by step. Laws by which the abstract machine is carried out: two ways that come together. A call's begin and end: a contract out of the abstract run of a body. A table of types is checked against the program's. A law's argument, as data, is a typed value of the abstract machine. The table of the types of this program, for the abstract machine: it fits the program. The laws by which the abstract machine is carried out, as one set. Small laws that the contracts' proofs share. Bytes and numbers; small functions that many laws use. Items as data; copies of items. Items: how much they are, how deep, whether two are alike, copies. Items: whether two are alike, copies; what is too heavy. Questions of the laws on items. Numbers as bytes, the highest first: plain laws. -/
import Derived.Test.YtmngjlgeojbghaaT1
import Derived.Test.YtmngjlgeojbghaaT2
import Derived.OpenShut
import Derived.SizedLaws
import Derived.Test.YtmngjlgeojbghaaProg
set_option linter.unusedSimpArgs false
set_option linter.unusedVariables false
section
namespace Go.Proofs.Ytmngjlgeojbghaa.VA
set_option maxHeartbeats 1000000

def mkD (D : Nat) : Deferred := { target := .collected D, args := #[] }
/-- F2 begins later than F; loops over functions have left their marks. -/
structure Ext (F F2 : Fx) : Prop where
  cfg : F2.C = F.C
  mine : ∀ b, F2.mine b → F.mine b
  le : Imm.le F.I0 F2.I0
  inew : ∀ b o v, F2.I0 b o = some v → F.I0 b o = some v ∨ F.mine b
  fr : Fr F.w0 F2.w0 F.S
  opn : F2.open
  a0 : F2.a0 = F.a0
  mo : F2.mo = F.mo
  spo : F.spo → F2.spo
  ds : ∃ ms : List Nat, F2.ds = ms.map mkD ++ F.ds ∧ ms.Nodup ∧ ∀ D, D ∈ ms → F.w0.heap.size ≤ D ∧ F2.w0.heap[D]? = some (.deferred (some [])) ∧ ¬ F2.S D
theorem Ext.refl {F : Fx} (h : F.open) : Ext F F :=
  ⟨rfl, fun _ h => h, Imm.leRefl _, fun _ _ _ h => .inl h, fr_refl _ _, h, rfl, rfl, id, [], rfl, List.nodup_nil, fun D h => by cases h⟩
theorem fr_two {w0 w1 w2 : World} {S S2 : Nat → Prop} (h : Fr w0 w1 S) (k : Fr w1 w2 S2) (hS : ∀ b, b < w0.heap.size → ¬ S b → ¬ S2 b) : Fr w0 w2 S :=
  fr_trans h k.os k.tape k.output k.size (fun b hb hn => k.block b (Nat.lt_of_lt_of_le hb h.size) (hS b hb hn)) k.new
theorem Ext.trans {F1 F2 F3 : Fx} (h : Ext F1 F2) (k : Ext F2 F3) : Ext F1 F3 := by
  obtain ⟨m2, e2, n2, p2⟩ := h.ds
  obtain ⟨m3, e3, n3, p3⟩ := k.ds
  have hlt : ∀ D, D ∈ m2 → D < F2.w0.heap.size := fun D hD => (Array.getElem?_eq_some_iff.1 (p2 D hD).2.1).1
  refine ⟨k.cfg.trans h.cfg, fun b hb => h.mine b (k.mine b hb), h.le.trans k.le, fun b o v hb => ?_, fr_two h.fr k.fr (fun b hb hn hS => ?_), k.opn, k.a0.trans h.a0, k.mo.trans h.mo, fun e => k.spo (h.spo e),
    m3 ++ m2, by rw [e3, e2, List.map_append, List.append_assoc], List.nodup_append.2 ⟨n3, n2, fun D h3 D' h2 e => ?_⟩, fun D hD => ?_⟩
  · rcases k.inew b o v hb with e | e
    · exact h.inew b o v e
    · exact .inr (h.mine b e)
  · rcases h.mine b (.inr hS) with e | e
    · omega
    · exact hn e
  · have := hlt D' h2
    have := (p3 D h3).1
    omega
  · rcases List.mem_append.1 hD with hD | hD
    · exact ⟨Nat.le_trans h.fr.size (p3 D hD).1, (p3 D hD).2⟩
    · obtain ⟨q1, q2, q3⟩ := p2 D hD
      refine ⟨q1, by rw [k.fr.block D (hlt D hD) q3]; exact q2, fun hS => ?_⟩
      rcases k.mine D (.inr hS) with e | e
      · have := hlt D hD; omega
      · exact q3 e
def PostX (F : Fx) (K : ASt → Prop) (a : Act) (w : World) : Prop := ∃ F2, Ext F F2 ∧ Post F2 K a w
theorem Post.x {F : Fx} {K : ASt → Prop} {a : Act} {w : World} (h : Post F K a w) (hop : F.open) : PostX F K a w := ⟨F, Ext.refl hop, h⟩
theorem PostX.trans {F F2 : Fx} {K : ASt → Prop} {a : Act} {w : World} (hE : Ext F F2) (h : PostX F2 K a w) : PostX F K a w := let ⟨F3, h1, h2⟩ := h; ⟨F3, hE.trans h1, h2⟩
/-- What is owed at an exit. -/
def lift (F : Fx) (Q : AEx → ASt → Prop) : Exit → Act → World → Prop
  | .normal, a, w => PostX F (Q .normal) a w
  | .exit id, a, w => PostX F (Q (.exit id)) a w
  | .ret, a, w => PostX F (Q .ret) a w
  | _, _, _ => False
theorem lift_trans {F F2 : Fx} {Q : AEx → ASt → Prop} (hE : Ext F F2) {e : Exit} {a : Act} {w : World} (h : lift F2 Q e a w) : lift F Q e a w := by
  cases e <;> first | exact PostX.trans hE h | exact h.elim
theorem lift_lets {F : Fx} {Q : AEx → ASt → Prop} : ¬ LetsOut (lift F Q) := fun ⟨_, _, h⟩ => h

section
variable {F : Fx} {I : Imm} {own : Nat → Option Loc} {σ : ASt} {a : Act} {w : World} {C : Cfg}

/-- The base of a round. -/
def rbase (C : Cfg) (ks : List Nat) (w : World) (I : Imm) (own : Nat → Option Loc) (a0 : Array Value) : Fx := ⟨C.round ks, w, I, fun b => own b ≠ none, fun _ => false, fun _ => False, [], a0, fun _ => True⟩
theorem rbase_spo {ks : List Nat} {a0 : Array Value} : (rbase C ks w I own a0).spo := fun ⟨f, e⟩ => by cases e
theorem rbase_open {ks : List Nat} {a0 : Array Value} : (rbase C ks w I own a0).open := ⟨fun _ => rfl, fun _ h => h⟩
/-- What stays, seen from the loop's begin: w, I the begin; gs0 what rounds may turn. -/
structure Ow (w : World) (I : Imm) (gs0 : List Nat) (gs : List Nat) (J : Imm) (W : World) : Prop where
  fr : Fr w W (· ∈ gs0)
  le : Imm.le I J
  ok : Imm.ok J W
  inew : ∀ b o u, J b o = some u → I b o = some u ∨ w.heap.size ≤ b ∨ b ∈ gs0
  sub : ∀ g, g ∈ gs → (g ∈ gs0 ∨ w.heap.size + 1 ≤ g) ∧ g < W.heap.size
  D : W.heap[w.heap.size]? = some (.deferred (some []))
/-- The variables of a round: what they hold between two rounds. -/
structure Vr (C : Cfg) (ks : List Nat) (a : Act) (l : Nat) (gs : List Nat) (J : Imm) (W : World) (vs : List (Nat × List AV)) : Prop where
  ri : ∃ own2 a2, RI (rbase C ks W J own2 a.tmps) J own2 ⟨[], vs, []⟩ a2 W ∧ (∀ b loc, own2 b = some loc → b ∈ gs ∧ b ≠ l ∧ ∀ t, loc ≠ .tmp t)
  keys : ∀ k cs, look vs k = some cs → ks.contains k = true
  l : l ∈ gs
theorem Ow.step {w W W2 : World} {I J J2 : Imm} {gs0 gs : List Nat} (h : Ow w I gs0 gs J W) (k : RStep W J [] W2 J2 []) : Ow w I gs0 gs J2 W2 where
  fr := fr_two h.fr k.fr fun b _ _ e => by cases e
  le := h.le.trans k.le
  ok := k.ok
  inew b o u hb := by
    rcases k.inew b o u hb with e | e | e
    · exact h.inew b o u e
    · exact .inr (.inl (Nat.le_trans h.fr.size e))
    · cases e
  sub g hg := ⟨(h.sub g hg).1, Nat.lt_of_lt_of_le (h.sub g hg).2 k.fr.size⟩
  D := by rw [k.fr.block _ (Array.getElem?_eq_some_iff.1 h.D).1 (fun e => by cases e)]; exact h.D
theorem Vr.step {ks : List Nat} {l : Nat} {gs : List Nat} {J J2 : Imm} {W W2 : World} {vs : List (Nat × List AV)} (h : Vr C ks a l gs J W vs) (k : RStep W J [] W2 J2 []) : Vr C ks a l gs J2 W2 vs := by
  obtain ⟨⟨own2, a2, h1, h2⟩, h3, h4⟩ := h
  have h5 := h1.called (gs := []) (fun g hg => by cases hg) k.fr k.le k.ok k.inew
  exact ⟨⟨own2, a2, h5.turn (F2 := rbase C ks W2 J2 own2 a.tmps) rfl rfl rfl rbase_open (fun b loc hb => by show own2 b ≠ none; rw [hb]; exact fun e => by cases e) (fun _ _ _ _ h => h.any fun _ _ => trivial) (fun _ _ => trivial) rfl h1.defs (fun _ => rfl) (fun _ => rfl) (Nat.le_refl _), h2⟩, h3, h4⟩

/-- What is owned behind a loop: by the variables, and by the temporaries that no round has seen. -/
def own3 (own own2 : Nat → Option Loc) (b : Nat) : Option Loc :=
  match own2 b with
  | some loc => some loc
  | none => match own b with
    | some (.tmp s) => some (.tmp s)
    | _ => none
theorem own3_of {own own2 : Nat → Option Loc} {b : Nat} {loc : Loc} (h : own2 b = some loc) : own3 own own2 b = some loc := by unfold own3; rw [h]
theorem own3_tmp {own own2 : Nat → Option Loc} {b s : Nat} (h : own2 b = none) (k : own b = some (.tmp s)) : own3 own own2 b = some (.tmp s) := by unfold own3; rw [h, k]
theorem own3_cases {own own2 : Nat → Option Loc} {b : Nat} {loc : Loc} (h : own3 own own2 b = some loc) : own2 b = some loc ∨ ∃ s, own b = some (.tmp s) := by
  unfold own3 at h
  cases e : own2 b with
  | some l2 => rw [e] at h; exact .inl h
  | none =>
    rw [e] at h
    cases e3 : own b with
    | none => rw [e3] at h; cases h
    | some l3 =>
      rw [e3] at h
      cases l3 <;> simp only at h <;> first | exact .inr ⟨_, rfl⟩ | cases h
theorem plain_at {vs : List (Nat × List AV)} (hpl : plainVs vs) {l : Loc} {x : AV} (hx : ASt.at ⟨[], vs, []⟩ l = some x) : x.plainV := by
  cases l with
  | tmp t => cases hx
  | comp t j => cases hx
  | box k => cases hx
  | cell k j =>
    simp only [ASt.at] at hx
    cases e : look vs k with
    | none => rw [e] at hx; cases hx
    | some cs =>
      rw [e] at hx
      exact hpl k cs e x (List.mem_of_getElem? hx)
/-- Behind the loop. -/
theorem after_ok (hC : F.C = C) (hfix : C.fix = []) (hlk : F.open) (h : RI F I own σ a w) {ks : List Nat} (hall : ks.all (fun k => (look σ.vars k).isSome) = true) {gs0 : List Nat} (hgs0 : ∀ g, g ∈ gs0 → ∃ loc, keepB ks own g = some loc)
    {gs : List Nat} {J : Imm} {W : World} {vs : List (Nat × List AV)} (ho : Ow w I gs0 gs J W) (hv : Vr C ks a (w.heap.size + 1) gs J W vs) {r : Loop} (hl : W.heap[w.heap.size + 1]? = some (.loop r)) (r' : Loop) {K : ASt → Prop}
    (hnsp : ∀ f, C.spc f = false) (hpl : plainVs vs) (hK : K ⟨strike (AV.dropA ks) σ.tmps, vs, []⟩) : PostX F K { a with defers := mkD w.heap.size :: a.defers } (W.putObj (w.heap.size + 1) (.loop r')) := by
  obtain ⟨⟨own2, a2, hri, hown2⟩, hkeys, hll⟩ := hv
  have hmine0 : ∀ g, g ∈ gs0 → F.mine g ∧ g < w.heap.size ∧ ∀ t, own g ≠ some (.tmp t) := by
    intro g hg
    obtain ⟨loc, e⟩ := hgs0 g hg
    obtain ⟨e1, e2⟩ := keepB_sub e
    obtain ⟨m1, m2⟩ := h.mine g _ e1
    exact ⟨m1, m2, fun t e3 => by rw [e1] at e3; cases e3; exact e2 t rfl⟩
  have hw0 : F.w0.heap.size ≤ w.heap.size := h.fr.size
  have hWsz : w.heap.size ≤ W.heap.size := ho.fr.size
  have hlW := (Array.getElem?_eq_some_iff.1 hl).1
  have hcp := cell?_put (w := W) (o' := .loop r') hl (fun _ _ _ e => by cases e) (fun _ _ _ e => by cases e)
  obtain ⟨F2, hF2⟩ : ∃ F2 : Fx, F2 = ⟨F.C, W.putObj (w.heap.size + 1) (.loop r'), J, fun b => F.mine b ∧ b ≠ w.heap.size, fun _ => false, fun _ => False, mkD w.heap.size :: F.ds, F.a0, F.mo⟩ := ⟨_, rfl⟩
  have hop2 : F2.open := by rw [hF2]; exact ⟨fun _ => rfl, fun _ h => h⟩
  have hS2 : ∀ b loc, own2 b = some loc → F2.S b := by
    intro b loc hb
    rw [hF2]
    obtain ⟨hg, hne, _⟩ := hown2 b loc hb
    rcases (ho.sub b hg).1 with e | e
    · obtain ⟨m1, m2, _⟩ := hmine0 b e; exact ⟨m1, by omega⟩
    · exact ⟨.inl (by omega), by omega⟩
  have hfx : ∀ t, F2.C.fix.contains t = true → False := fun t e => by
    rw [hF2] at e
    have e : F.C.fix.contains t = true := e
    rw [hC, hfix] at e
    cases e
  have hput : ∀ k, k ≠ w.heap.size + 1 → (W.putObj (w.heap.size + 1) (.loop r')).heap[k]? = W.heap[k]? := fun k hk => World.putObj_heap_other hk
  have hmineF2 : ∀ b, F2.mine b → F.mine b := by
    intro b hb
    rw [hF2] at hb
    rcases hb with hb | hb
    · have hb : (W.putObj (w.heap.size + 1) (.loop r')).heap.size ≤ b := hb
      rw [World.putObj_size] at hb
      exact .inl (by omega)
    · exact hb.1
  have hmk2 : ∀ b, F2.mine b → F2.mo b := fun b hb => by
    have := h.mko b (hmineF2 b hb)
    rw [hF2]; exact this
  have h1 : RI F2 J own2 ⟨[], vs, []⟩ { tmps := a2.tmps, defers := F2.ds } (W.putObj (w.heap.size + 1) (.loop r')) :=
    hri.turn (by rw [hF2]; show F.C.n = (C.round ks).n; rw [hC]; rfl) (by rw [hF2]) (by rw [hF2]) hop2 hS2 (fun l x v hx hr => hr.ofPlain (plain_at hpl hx)) hmk2 rfl ⟨rfl, fun t e => (hfx t e).elim⟩ (fun p => (hcp p).1) (fun p => (hcp p).2) (by simp)
  have hE : Ext F F2 := by
    refine ⟨by rw [hF2], hmineF2, by rw [hF2]; exact h.base.trans ho.le, fun b o v hb => ?_, ?_, hop2, by rw [hF2], by rw [hF2], fun _ => (by rw [hF2]; rintro ⟨f, e⟩; have e : F.C.spc f = true := e; rw [hC, hnsp f] at e; cases e), [w.heap.size], by rw [hF2]; rfl, List.nodup_cons.2 ⟨by simp, List.nodup_nil⟩, fun D hD => ?_⟩
    · rw [hF2] at hb
      rcases ho.inew b o v hb with e | e | e
      · exact h.inew b o v e
      · exact .inr (.inl (Nat.le_trans hw0 e))
      · exact .inr (hmine0 b e).1
    · rw [hF2]
      refine fr_trans h.fr (by exact ho.fr.os) ho.fr.tape ho.fr.output (by show _ ≤ (W.putObj _ _).heap.size; rw [World.putObj_size]; exact hWsz) (fun k hk hn => ?_) (fun k o u hu => by
        have := ho.fr.new k o u (by rw [← (hcp _).1]; exact hu)
        rw [(hcp _).2]; exact this)
      rw [show (W.putObj (w.heap.size + 1) (.loop r')).heap[k]? = W.heap[k]? from hput k (by omega)]
      refine ho.fr.block k (by omega) fun e => ?_
      rcases (hmine0 k e).1 with e2 | e2
      · omega
      · exact hn e2
    · rw [List.mem_singleton] at hD
      subst hD
      rw [hF2]
      refine ⟨hw0, ?_, fun e => e.2 rfl⟩
      rw [show (W.putObj (w.heap.size + 1) (.loop r')).heap[w.heap.size]? = W.heap[w.heap.size]? from hput _ (by omega)]
      exact ho.D
  have hnone2 : ∀ g, g < w.heap.size → g ∉ gs0 → own2 g = none := by
    intro g hg hn
    cases e : own2 g with
    | none => rfl
    | some loc =>
      rcases (ho.sub g (hown2 g loc e).1).1 with e2 | e2
      · exact (hn e2).elim
      · omega
  refine ⟨F2, hE, J, own3 own own2, ⟨strike (AV.dropA ks) σ.tmps, vs, []⟩, ?_, hK⟩
  refine h1.make (a2 := { a with defers := mkD w.heap.size :: a.defers }) hop2 _ (fun b l hb => own3_of hb) (fun b l hb => ?_) (by rw [hF2]; exact h.size) ⟨by rw [hF2]; show mkD w.heap.size :: a.defers = _; rw [h.defs.1], fun t e => (hfx t e).elim⟩ (fun k cs hk => ?_) (fun t x hx => ?_)
  · rcases own3_cases hb with e | ⟨s, e⟩
    · exact h1.mine b _ e
    · obtain ⟨m1, m2⟩ := h.mine b _ e
      refine ⟨?_, by rw [World.putObj_size]; omega⟩
      rw [hF2]
      exact .inr ⟨m1, by omega⟩
  · exact (hri.defs.2 k (hkeys k cs hk)).symm
  · rw [look_strike] at hx
    cases hy : look σ.tmps t with
    | none => rw [hy] at hx; cases hx
    | some y =>
      rw [hy] at hx
      simp only [Option.map_some, Option.some.injEq] at hx
      obtain ⟨v, hv1, hv2⟩ := h.slots (.tmp t) y hy
      refine ⟨v, hv1, ?_⟩
      have him : y.isImm = true → TRep F2 J (own3 own own2) vs { a with defers := mkD w.heap.size :: a.defers } (W.putObj (w.heap.size + 1) (.loop r')) t x v := by
        intro hi
        have hd : AV.dropA ks y = false := by cases y <;> first | rfl | (cases hi; done)
        rw [if_neg (by rw [hd]; decide)] at hx
        rw [← hx]
        exact .inr (.inl ⟨hi, ((srep_imm hi).1 hv2).mono (fun b hb => by rw [hF2]; exact hb) ho.le⟩)
      have hbot : AV.dropA ks y = true → TRep F2 J (own3 own own2) vs { a with defers := mkD w.heap.size :: a.defers } (W.putObj (w.heap.size + 1) (.loop r')) t x v := fun hd => by
        rw [if_pos hd] at hx
        exact .inl hx.symm
      cases y with
      | own sh sz es =>
        rw [if_neg (by simp only [AV.dropA, Bool.false_eq_true, not_false_eq_true])] at hx
        rw [← hx]
        refine .inr (.inr (.inr ⟨sh, sz, es, rfl, ?_⟩))
        rcases hv2 with e | ⟨g, cap, e1, e2, e3⟩
        · exact .inl e
        · have hgl := (h.mine g _ e2).2
          have hn0 : g ∉ gs0 := fun e => (hmine0 g e).2.2 t e2
          have hb : (W.putObj (w.heap.size + 1) (.loop r')).heap[g]? = w.heap[g]? := (hput g (by omega)).trans (ho.fr.block g hgl hn0)
          refine .inr ⟨g, cap, e1, own3_tmp (hnone2 g hgl hn0) e2, e3.keep (fun b hb => by rw [hF2]; exact hb) ho.le (fun o hI => ?_) (fun o => World.cell?_of_block hb) (fun o => World.frozen?_of_block hb)⟩
          cases eJ : J g o with
          | none => rfl
          | some u =>
            rcases ho.inew g o u eJ with q | q | q
            · rw [hI] at q; cases q
            · omega
            · exact (hn0 q).elim
      | var k off =>
        cases hk : ks.contains k with
        | false => exact hbot (by simp only [AV.dropA, hk, Bool.not_false])
        | true =>
          rw [if_neg (by simp only [AV.dropA, hk, Bool.not_true, Bool.false_eq_true, not_false_eq_true])] at hx
          rw [← hx]
          refine .inr (.inr (.inl ⟨k, off, rfl, fun cs hcs => ?_⟩))
          have := List.all_eq_true.1 hall k (by simpa using hk)
          cases hs : look σ.vars k with
          | none => rw [hs] at this; cases this
          | some cs0 => exact hv2 cs0 hs
      | bot => exact hbot rfl
      | undef => exact hbot rfl
      | tup vs => exact hbot rfl
      | ref l => exact hbot rfl
      | elt x i off => exact hbot rfl
      | _ => exact him rfl

def jumpOf : AEx → Option Code
  | .normal => none
  | .exit id => some (.exit id)
  | .ret => some .ret
/-- One round: its end. -/
theorem round_end {ks : List Nat} {gs0 gs : List Nat} {J J1 : Imm} {W w1 w2 w3 : World} {own2 own1 : Nat → Option Loc} {F1 : Fx}
    (ho : Ow w I gs0 gs J W) (hgl : ∀ g, g ∈ gs0 → g < w.heap.size) (hl0 : w.heap.size + 1 ∈ gs) {r0 : Loop} (hl : W.heap[w.heap.size + 1]? = some (.loop r0))
    (hown2 : ∀ b loc, own2 b = some loc → b ∈ gs ∧ b ≠ w.heap.size + 1 ∧ ∀ t, loc ≠ .tmp t) {τ : ASt} {a1 : Act}
    (h1 : RI (rbase C ks W J own2 a.tmps) J1 own1 τ a1 w1) {rb : Loop} (hw2 : w2 = w1.putObj (w.heap.size + 1) (.loop rb)) (hE : Ext (rbase C ks w2 J1 own1 a.tmps) F1)
    {J2 : Imm} {own3 : Nat → Option Loc} {τ2 : ASt} {a3 : Act} (h3 : RI F1 J2 own3 τ2 a3 w3) (r4 : Loop) :
    w3.heap[w.heap.size + 1]? = some (.loop rb) ∧
    ∃ gs', RStep W J gs (w3.putObj (w.heap.size + 1) (.loop r4)) J2 gs' ∧ Ow w I gs0 gs' J2 (w3.putObj (w.heap.size + 1) (.loop r4)) ∧ Vr C ks a (w.heap.size + 1) gs' J2 (w3.putObj (w.heap.size + 1) (.loop r4)) (keepV ks τ2.vars) := by
  have hlW := (Array.getElem?_eq_some_iff.1 hl).1
  have hn2 : own2 (w.heap.size + 1) = none := by
    cases e : own2 (w.heap.size + 1) with
    | none => rfl
    | some loc => exact ((hown2 _ loc e).2.1 rfl).elim
  have hb1 : ∀ b, own1 b ≠ none → W.heap.size ≤ b ∨ own2 b ≠ none := fun b hb => by
    cases e : own1 b with
    | none => exact (hb e).elim
    | some loc => exact (h1.mine b loc e).1
  have hn1 : own1 (w.heap.size + 1) = none := by
    cases e : own1 (w.heap.size + 1) with
    | none => rfl
    | some loc =>
      rcases hb1 _ (by rw [e]; exact fun e => by cases e) with q | q
      · omega
      · exact (q hn2).elim
  have hsz1 : W.heap.size ≤ w1.heap.size := h1.fr.size
  have hl1 : w1.heap[w.heap.size + 1]? = some (.loop r0) := (h1.fr.block _ hlW (fun e => e hn2)).trans hl
  have hsz2 : w2.heap.size = w1.heap.size := by rw [hw2, World.putObj_size]
  have hl2 : w2.heap[w.heap.size + 1]? = some (.loop rb) := by rw [hw2]; exact World.putObj_heap_same (by omega)
  have hsz21 : w2.heap.size ≤ F1.w0.heap.size := hE.fr.size
  have hnF : ∀ b, F1.S b → W.heap.size ≤ b ∨ own2 b ≠ none := fun b hb => by
    rcases hE.mine b (.inr hb) with q | q
    · have q : w2.heap.size ≤ b := q
      exact .inl (by omega)
    · exact hb1 b q
  have hlF : F1.w0.heap[w.heap.size + 1]? = some (.loop rb) := (hE.fr.block _ (by show _ < w2.heap.size; omega) (fun e => e hn1)).trans hl2
  have hl3 : w3.heap[w.heap.size + 1]? = some (.loop rb) := by
    rw [h3.fr.block _ (by omega) (fun e => ?_)]
    · exact hlF
    · rcases hE.mine _ (.inr e) with q | q
      · have q : w2.heap.size ≤ w.heap.size + 1 := q
        omega
      · exact q hn1
  have hsz3 : F1.w0.heap.size ≤ w3.heap.size := h3.fr.size
  refine ⟨hl3, ?_⟩
  have hput : ∀ k, k ≠ w.heap.size + 1 → (w3.putObj (w.heap.size + 1) (.loop r4)).heap[k]? = w3.heap[k]? := fun k hk => World.putObj_heap_other hk
  have hcp := cell?_put (w := w3) (o' := .loop r4) hl3 (fun _ _ _ e => by cases e) (fun _ _ _ e => by cases e)
  have hF1n : F1.C = C.round ks := hE.cfg
  -- what the variables hold
  have hv := h3.vars0 hE.opn ks
  obtain ⟨gs', hgs'⟩ : ∃ gs' : List Nat, ∀ b, b ∈ gs' ↔ b = w.heap.size + 1 ∨ (b < w3.heap.size ∧ keepB ks own3 b ≠ none) := by
    refine ⟨(w.heap.size + 1) :: (List.range w3.heap.size).filter (fun b => (keepB ks own3 b).isSome), fun b => ?_⟩
    rw [List.mem_cons, List.mem_filter, List.mem_range, Option.isSome_iff_ne_none]
  have hown3 : ∀ b, own3 b ≠ none → (W.heap.size ≤ b ∨ own2 b ≠ none) ∧ b < w3.heap.size ∧ b ≠ w.heap.size + 1 := fun b hb => by
    cases e : own3 b with
    | none => exact (hb e).elim
    | some loc =>
      obtain ⟨m1, m2⟩ := h3.mine b loc e
      have m3 : W.heap.size ≤ b ∨ own2 b ≠ none := by
        rcases hE.mine b m1 with q | q
        · have q : w2.heap.size ≤ b := q
          exact .inl (by omega)
        · exact hb1 b q
      refine ⟨m3, m2, fun e2 => ?_⟩
      subst e2
      rcases m3 with q | q
      · omega
      · exact q hn2
  have hin : ∀ b, own2 b ≠ none → b ∈ gs := fun b hb => by
    cases e : own2 b with
    | none => exact (hb e).elim
    | some loc => exact (hown2 b loc e).1
  have hk3 : ∀ b loc, keepB ks own3 b = some loc → own3 b ≠ none := fun b loc e => by rw [(keepB_sub e).1]; exact fun e => by cases e
  have hmem : ∀ g, g ∈ gs' → (g ∈ gs ∨ W.heap.size ≤ g) ∧ g < (w3.putObj (w.heap.size + 1) (.loop r4)).heap.size := by
    intro g hg
    rw [World.putObj_size]
    rcases (hgs' g).1 hg with rfl | ⟨q1, q2⟩
    · exact ⟨.inl hl0, by omega⟩
    · cases e : keepB ks own3 g with
      | none => exact (q2 e).elim
      | some loc =>
        refine ⟨?_, q1⟩
        rcases (hown3 g (hk3 g loc e)).1 with q | q
        · exact .inr q
        · exact .inl (hin g q)
  have hJ1 : ∀ b o u, J1 b o = some u → J b o = some u ∨ W.heap.size ≤ b ∨ b ∈ gs := fun b o u e => by
    rcases h1.inew b o u e with q | q | q
    · exact .inl q
    · exact .inr (.inl q)
    · exact .inr (.inr (hin b q))
  have hFJ : ∀ b o u, F1.I0 b o = some u → J b o = some u ∨ W.heap.size ≤ b ∨ b ∈ gs := fun b o u e => by
    rcases hE.inew b o u e with q | q | q
    · exact hJ1 b o u q
    · have q : w2.heap.size ≤ b := q
      exact .inr (.inl (by omega))
    · rcases hb1 b q with q | q
      · exact .inr (.inl q)
      · exact .inr (.inr (hin b q))
  have hst : RStep W J gs (w3.putObj (w.heap.size + 1) (.loop r4)) J2 gs' := by
    refine ⟨?_, (h1.base.trans hE.le).trans h3.base, fun b o v e => by rw [(hcp _).1]; exact h3.imm b o v e, fun b o u e => ?_, hmem⟩
    · have f1 : Fr W w1 (· ∈ gs) := ⟨h1.fr.os, h1.fr.tape, h1.fr.output, h1.fr.size, fun k hk hn => h1.fr.block k hk fun e => hn (hin k e), h1.fr.new⟩
      have hc1 := cell?_put (w := w1) (o' := .loop rb) hl1 (fun _ _ _ e => by cases e) (fun _ _ _ e => by cases e)
      have f2 : Fr W w2 (· ∈ gs) := fr_trans f1 (by rw [hw2]; rfl) (by rw [hw2]; rfl) (by rw [hw2]; rfl) (by omega) (fun k hk hn => by
        rw [hw2]; exact World.putObj_heap_other fun e => hn (by rw [e]; exact hl0)) fun k o u hu => by
        rw [hw2] at hu ⊢
        rw [(hc1 _).1] at hu
        exact .inl ⟨⟨u, hu⟩, (hc1 _).2⟩
      have f3 : Fr W F1.w0 (· ∈ gs) := fr_two f2 hE.fr fun b hb hn e => by
        rcases hb1 b e with q | q
        · omega
        · exact hn (hin b q)
      have f4 : Fr W w3 (· ∈ gs) := fr_two f3 h3.fr fun b hb hn e => by
        rcases hnF b e with q | q
        · omega
        · exact hn (hin b q)
      exact fr_trans f4 rfl rfl rfl (by rw [World.putObj_size]; omega) (fun k hk hn => hput k fun e => hn (by rw [e]; exact hl0)) fun k o u hu => .inl ⟨⟨u, by rw [← (hcp _).1]; exact hu⟩, (hcp _).2⟩
    · rcases h3.inew b o u e with q | q | q
      · exact hFJ b o u q
      · exact .inr (.inl (by omega))
      · rcases hnF b q with q | q
        · exact .inr (.inl q)
        · exact .inr (.inr (hin b q))
  refine ⟨gs', hst, ?_, ?_⟩
  · have hg0 : ∀ g, g ∈ gs → g < w.heap.size → g ∈ gs0 := fun g hg hlt => by
      rcases (ho.sub g hg).1 with q | q
      · exact q
      · omega
    refine ⟨fr_two ho.fr hst.fr fun b hb hn e => hn (hg0 b e hb), ho.le.trans hst.le, hst.ok, fun b o u e => ?_, fun g hg => ⟨?_, (hmem g hg).2⟩, ?_⟩
    · rcases hst.inew b o u e with q | q | q
      · exact ho.inew b o u q
      · exact .inr (.inl (Nat.le_trans ho.fr.size q))
      · rcases (ho.sub b q).1 with q | q
        · exact .inr (.inr q)
        · exact .inr (.inl (by omega))
    · rcases (hmem g hg).1 with q | q
      · exact (ho.sub g q).1
      · exact .inr (by omega)
    · rw [hst.fr.block _ (Array.getElem?_eq_some_iff.1 ho.D).1 (fun e => ?_)]
      · exact ho.D
      · rcases (ho.sub _ e).1 with q | q
        · exact absurd (hgl _ q) (by omega)
        · omega
  · refine ⟨⟨keepB ks own3, { tmps := a3.tmps, defers := [] }, hv.turn (F2 := rbase C ks (w3.putObj (w.heap.size + 1) (.loop r4)) J2 (keepB ks own3) a.tmps) (by show (C.round ks).n = F1.C.n; rw [hF1n]) rfl rfl rbase_open (fun b loc hb => by show keepB ks own3 b ≠ none; rw [hb]; exact fun e => by cases e) (fun _ _ _ _ h => h.any fun _ _ => trivial) (fun _ _ => trivial) rfl ⟨rfl, fun t e => ?_⟩ (fun p => (hcp p).1) (fun p => (hcp p).2) (by rw [World.putObj_size]; omega),
      fun b loc hb => ⟨(hgs' b).2 (.inr ⟨(hown3 b (hk3 b loc hb)).2.1, by rw [hb]; exact fun e => by cases e⟩), (hown3 b (hk3 b loc hb)).2.2, (keepB_sub hb).2⟩⟩, fun k cs hk => (look_keepV ks _ k cs hk).2, (hgs' _).2 (.inl rfl)⟩
    have := h3.defs.2 t (by rw [hF1n]; exact e)
    rw [hE.a0] at this
    exact this

def noDeferB (ops : Array Oper) : Bool := ops.all fun o => match o.op with | .defer _ => false | _ => true
theorem noDefer_of {ops : Array Oper} (h : noDeferB ops = true) : ∀ o, o ∈ ops → ∀ c, o.op ≠ .defer c := fun o ho c e => by
  have := Array.all_eq_true_iff_forall_mem.1 h o ho
  rw [e] at this
  cases this
def lrec (fn : FuncId) (tmps : Array Value) (t : Nat) (assign body : Code) (D : Nat) (st : LoopState) (pe : Option Code) : Loop := { state := st, pending := pe, fn, tmps, params := #[t], assign, body, defers := D }
/-- A loop over a function. -/
theorem range_ok (hok : CfgOk C) {g : Operand} {ps : Array Tmp} {rid : Nat} {ops : Array Oper} {body : Code} (hnd : noDeferB ops = true)
    (ihb : ∀ (C' : Cfg), CfgOk C' → C'.inr = true → C'.P = C.P → ∀ (F' : Fx), F'.C = C' → F'.open → F'.spo → ∀ (r : Option Nat) (Q : AEx → ASt → Prop) (σ : ASt) (I : Imm) (own : Nat → Option Loc) (a : Act) (w : World), RI F' I own σ a w → aco C' body Q σ → body.wpIn (fen r) 0 C.P (lift F' Q) a w)
    (hC : F.C = C) (hlk : F.open) {Q : AEx → ASt → Prop} (h : RI F I own σ a w) (hw : aco C (.rangeFunc g ps (.region rid ops false) body) Q σ) :
    (Code.rangeFunc g ps (.region rid ops false) body).wpIn (fen none) 0 C.P (lift F Q) a w := by
  obtain ⟨ks, t, p, xs, st, ⟨hinr, hfix, rfl, htn, htk, hall, hg, hit, hst, hplE, hnsp⟩, hsteps, hend⟩ := hw
  have hgv : AR F.mo I (.ext p) (a.eval g) := (rv_imm rfl).1 (hg ▸ rd_ok h C 0 g)
  generalize hgval : a.eval g = gval at hgv
  cases hgv with
  | ext _ J0 _ hJ h1 hp =>
  obtain ⟨gf, lb, rfl, heg, hcall⟩ := hit J0 gval hp
  refine wpIn_rangeFunc (fun fn _ => ?_)
  obtain ⟨rec, hrec⟩ : ∃ rec : LoopState → Option Code → Loop, rec = lrec fn a.tmps t (.region rid ops false) body w.heap.size := ⟨_, rfl⟩
  have hr1 : ∀ s p s' p', { rec s p with state := s', pending := p' } = rec s' p' := by rw [hrec]; exact fun _ _ _ _ => rfl
  have hr2 : ∀ s p s', { rec s p with state := s' } = rec s' p := by rw [hrec]; exact fun _ _ _ => rfl
  have hr3 : ∀ s p, (rec s p).state = s ∧ (rec s p).pending = p ∧ (rec s p).params = #[t] ∧ (rec s p).fn = fn ∧ (rec s p).tmps = a.tmps ∧ (rec s p).assign = .region rid ops false ∧ (rec s p).body = body := by
    rw [hrec]; exact fun _ _ => ⟨rfl, rfl, rfl, rfl, rfl, rfl, rfl⟩
  obtain ⟨W1, hW1⟩ : ∃ W1, (w.alloc (.deferred (some []))).alloc (.loop (rec .ready none)) = W1 := ⟨_, rfl⟩
  have hL1 : W1.heap[w.heap.size + 1]? = some (.loop (rec .ready none)) := by
    rw [← hW1]; have := World.alloc_heap_new (w.alloc (.deferred (some []))) (.loop (rec .ready none)); rwa [World.size_alloc] at this
  have hK1 : W1.heap[w.heap.size]? = some (.deferred (some [])) := by
    rw [← hW1]
    exact (RowKit.Below.heap_alloc (w.alloc (.deferred (some []))) (.loop (rec .ready none)) _ (by rw [World.size_alloc]; omega)).trans (World.alloc_heap_new w _)
  have hcp : ∀ q, W1.cell? q = w.cell? q ∧ W1.frozen? q = w.frozen? q := fun q => by
    rw [← hW1]
    have e1 := cell?_newObj (w := w.alloc (.deferred (some []))) (o := .loop (rec .ready none)) (fun _ _ _ e => by cases e) q
    have e2 := cell?_newObj (w := w) (o := .deferred (some [])) (fun _ _ _ e => by cases e) q
    exact ⟨e1.1.trans e2.1, e1.2.trans e2.2⟩
  have hsz1 : W1.heap.size = w.heap.size + 2 := by rw [← hW1, World.size_alloc, World.size_alloc]
  have hfr1 : Fr w W1 fun _ => False := by
    refine ⟨by rw [← hW1]; rfl, by rw [← hW1]; rfl, by rw [← hW1]; rfl, by omega, fun k hk _ => ?_, fun k o u hu => .inl ⟨⟨u, by rw [← (hcp _).1]; exact hu⟩, (hcp _).2⟩⟩
    rw [← hW1]
    exact (RowKit.Below.heap_alloc _ _ k (by rw [World.size_alloc]; omega)).trans (RowKit.Below.heap_alloc w _ k hk)
  -- what rounds may turn
  obtain ⟨gs0, hgs0⟩ : ∃ gs0 : List Nat, ∀ b, b ∈ gs0 ↔ b < w.heap.size ∧ keepB ks own b ≠ none := by
    refine ⟨(List.range w.heap.size).filter (fun b => (keepB ks own b).isSome), fun b => ?_⟩
    rw [List.mem_filter, List.mem_range, Option.isSome_iff_ne_none]
  have hgk : ∀ b, b ∈ gs0 → ∃ loc, keepB ks own b = some loc := fun b hb => Option.ne_none_iff_exists'.1 ((hgs0 b).1 hb).2
  have hgl : ∀ b, b ∈ gs0 → b < w.heap.size := fun b hb => ((hgs0 b).1 hb).1
  have ho0 : Ow w I gs0 ((w.heap.size + 1) :: gs0) I W1 := by
    refine ⟨⟨hfr1.os, hfr1.tape, hfr1.output, hfr1.size, fun k hk _ => hfr1.block k hk id, hfr1.new⟩, Imm.leRefl I, fun b o v e => by rw [(hcp _).1]; exact h.imm b o v e, fun b o u e => .inl e, fun q hq => ?_, hK1⟩
    rcases List.mem_cons.1 hq with rfl | hq
    · exact ⟨.inr (by omega), by omega⟩
    · have := hgl q hq; exact ⟨.inl hq, by omega⟩
  have hv0 : Vr C ks a (w.heap.size + 1) ((w.heap.size + 1) :: gs0) I W1 (st 0) := by
    have h0 := h.vars0 hlk ks
    rw [hst] at h0
    refine ⟨⟨keepB ks own, { tmps := a.tmps, defers := [] }, h0.turn (F2 := rbase C ks W1 I (keepB ks own) a.tmps) (by show (C.round ks).n = F.C.n; rw [hC]; rfl) rfl rfl rbase_open (fun b loc hb => by show keepB ks own b ≠ none; rw [hb]; exact fun e => by cases e) (fun _ _ _ _ h => h.any fun _ _ => trivial) (fun _ _ => trivial) rfl ⟨rfl, fun _ _ => rfl⟩ (fun q => (hcp q).1) (fun q => (hcp q).2) (by omega), fun b loc hb => ?_⟩, fun k cs hk => ?_, List.mem_cons.2 (.inl rfl)⟩
    · have hm := (h.mine b loc (keepB_sub hb).1).2
      exact ⟨List.mem_cons.2 (.inr ((hgs0 b).2 ⟨hm, by rw [hb]; exact fun e => by cases e⟩)), by omega, (keepB_sub hb).2⟩
    · rw [← hst] at hk
      exact (look_keepV ks _ k cs hk).2
  -- between two rounds; a round has ended the loop
  obtain ⟨Inv, hInv⟩ : ∃ Inv : Nat → List Nat → Imm → World → Prop, Inv = fun i gs J W => Ow w I gs0 gs J W ∧ W.heap[w.heap.size + 1]? = some (.loop (rec .ready none)) ∧ Vr C ks a (w.heap.size + 1) gs J W (st i) := ⟨_, rfl⟩
  obtain ⟨Stop, hStop⟩ : ∃ Stop : List Nat → Imm → World → Prop, Stop = fun gs J W => ∃ e c vs, jumpOf e = some c ∧ Ow w I gs0 gs J W ∧ W.heap[w.heap.size + 1]? = some (.loop (rec .done (some c))) ∧ Vr C ks a (w.heap.size + 1) gs J W vs ∧ (plainVs vs ∧ Q e ⟨strike (AV.dropA ks) σ.tmps, vs, []⟩) := ⟨_, rfl⟩
  have main := hcall (w.heap.size + 1) Inv Stop ((w.heap.size + 1) :: gs0) I W1 (fun b o v e => by rw [(hcp _).1]; exact h.imm b o v e) hJ (fun q hq => (ho0.sub q hq).2) (by rw [hInv]; exact ⟨ho0, hL1, hv0⟩)
    (by
      rw [hInv]
      rintro i gs J W J2 W2 ⟨e1, e2, e3⟩ k
      exact ⟨e1.step k, by rw [k.fr.block _ (Array.getElem?_eq_some_iff.1 e2).1 (fun e => by cases e)]; exact e2, e3.step k⟩)
    (by
      rw [hStop]
      rintro gs J W J2 W2 ⟨e, c, vs, e0, e1, e2, e3, e4⟩ k
      exact ⟨e, c, vs, e0, e1.step k, by rw [k.fr.block _ (Array.getElem?_eq_some_iff.1 e2).1 (fun e => by cases e)]; exact e2, e3.step k, e4⟩)
    (by
      intro i x u gs J W hx hinv hJok hxu
      rw [hInv] at hinv
      obtain ⟨ho, hl, hv⟩ := hinv
      obtain ⟨hximm, hrun⟩ := hsteps i x hx
      obtain ⟨⟨own2, a2, hri, hown2⟩, hkeys, hl0⟩ := hv
      have hps : (#[u] : Array Value).size = (rec .ready none).params.size := by rw [(hr3 _ _).2.2.1]; rfl
      refine ⟨_, _, _, _, run_yield hl hps, ?_⟩
      obtain ⟨_, _, p3, p4, p5, p6, p7⟩ := hr3 .ready none
      rw [p3, p4, p5, p6, p7]
      have htm : (((#[t] : Array Tmp).zip #[u]).foldl (fun tmps (x : Tmp × Value) => tmps.setIfInBounds x.1 x.2) a.tmps) = a.tmps.setIfInBounds t u := by simp
      refine roundIn_of_wpIn (F := Fence.wide) trivial ?_
      show (Code.region rid ops false).wpIn (fen (some (w.heap.size + 1))) 0 C.P _ { tmps := (((#[t] : Array Tmp).zip #[u]).foldl (fun tmps (x : Tmp × Value) => tmps.setIfInBounds x.1 x.2) a.tmps), defers := [] } W
      rw [htm]
      have htsz : t < a.tmps.size := by rw [h.size, hC]; exact htn
      have hri2 : RI (rbase C ks W J own2 a.tmps) J own2 ⟨ins t x (strike (AV.dropR ks) σ.tmps), st i, []⟩ { tmps := a.tmps.setIfInBounds t u, defers := [] } W := by
        have hne : ∀ k, ks.contains k = true → (a.tmps.setIfInBounds t u)[k]? = a.tmps[k]? := fun k hk => Array.getElem?_setIfInBounds_ne (fun e => by rw [← e, htk] at hk; cases hk)
        refine hri.make rbase_open _ (fun _ _ e => e) hri.mine (by rw [Array.size_setIfInBounds, h.size, hC]; rfl) ⟨rfl, fun k hk => hne k hk⟩ (fun k cs hk => ?_) (fun s y hy => ?_)
        · rw [hne k (hkeys k cs hk)]
          exact (hri.defs.2 k (hkeys k cs hk)).symm
        · rw [look_ins] at hy
          split at hy
          · rename_i e
            subst e
            cases hy
            exact ⟨u, by simp [htsz], .inr (.inl ⟨hximm, hxu⟩)⟩
          · rename_i hst2
            rw [look_strike] at hy
            cases hy2 : look σ.tmps s with
            | none => rw [hy2] at hy; cases hy
            | some z =>
              rw [hy2] at hy
              simp only [Option.map_some, Option.some.injEq] at hy
              obtain ⟨v, hv1, hv2⟩ := h.slots (.tmp s) z hy2
              refine ⟨v, by rw [Array.getElem?_setIfInBounds_ne (fun e => hst2 e.symm)]; exact hv1, ?_⟩
              by_cases hd : AV.dropR ks z = true
              · rw [if_pos hd] at hy; exact .inl hy.symm
              · rw [if_neg hd] at hy
                rw [← hy]
                cases z with
                | bool b => exact .inr (.inl ⟨rfl, ((srep_imm rfl).1 hv2).mono (fun _ _ => trivial) ho.le⟩)
                | int k n => exact .inr (.inl ⟨rfl, ((srep_imm rfl).1 hv2).mono (fun _ _ => trivial) ho.le⟩)
                | str b => exact .inr (.inl ⟨rfl, ((srep_imm rfl).1 hv2).mono (fun _ _ => trivial) ho.le⟩)
                | var k off =>
                  have hk : ks.contains k = true := by
                    simp only [AV.dropR, Bool.not_eq_true', Bool.not_eq_false] at hd; exact hd
                  refine .inr (.inr (.inl ⟨k, off, rfl, fun cs hcs => ?_⟩))
                  have := List.all_eq_true.1 hall k (by simpa using hk)
                  cases hs : look σ.vars k with
                  | none => rw [hs] at this; cases this
                  | some cs0 =>
                    obtain ⟨b, q1, q2⟩ := hv2 cs0 hs
                    exact ⟨b, (hne k hk).trans q1, q2⟩
                | _ => exact (hd rfl).elim
      refine region_in (noDefer_of hnd) (fun ⟨_, _, e⟩ => e) ?_
      refine aops_ok (F := rbase C ks W J own2 a.tmps) (C := C.round ks) rfl ⟨hok.mixed, hok.fit⟩ rbase_open rbase_spo ?_ ops.toList _ J own2 _ W hri2 hrun
      rintro a1 w1 ⟨J1, own1, τ, q1, q2⟩
      have hl1 : w1.heap[w.heap.size + 1]? = some (.loop (rec .ready none)) := (q1.fr.block _ (Array.getElem?_eq_some_iff.1 hl).1 (fun e => by
        show False
        cases e2 : own2 (w.heap.size + 1) with
        | none => exact e e2
        | some loc => exact (hown2 _ loc e2).2.1 rfl)).trans hl
      refine ⟨_, run_beginRound hl1 (hr3 _ _).1, ?_⟩
      rw [hr2]
      have hcb := cell?_put (w := w1) (o' := .loop (rec .busy none)) hl1 (fun _ _ _ e => by cases e) (fun _ _ _ e => by cases e)
      have q3 : RI (rbase C ks (w1.putObj (w.heap.size + 1) (.loop (rec .busy none))) J1 own1 a.tmps) J1 own1 (τ.keep C.live) a1 (w1.putObj (w.heap.size + 1) (.loop (rec .busy none))) :=
        (q1.keep _).turn rfl rfl rfl rbase_open (fun b loc hb => by show own1 b ≠ none; rw [hb]; exact fun e => by cases e) (fun _ _ _ _ h => h.any fun _ _ => trivial) (fun _ _ => trivial) rfl q1.defs (fun q => (hcb q).1) (fun q => (hcb q).2) (by rw [World.putObj_size]; exact Nat.le_refl _)
      refine wpIn_mono (ihb (C.round ks) ⟨hok.mixed, hok.fit⟩ rfl rfl _ rfl rbase_open rbase_spo (some (w.heap.size + 1)) _ _ J1 own1 a1 _ q3 q2) ?_
      intro e a3 w3 he
      have fin : ∀ (F1 : Fx) (J2 : Imm) (own3 : Nat → Option Loc) (τ2 : ASt), Ext (rbase C ks (w1.putObj (w.heap.size + 1) (.loop (rec .busy none))) J1 own1 a.tmps) F1 → RI F1 J2 own3 τ2 a3 w3 → ∀ r4, _ := fun F1 J2 own3 τ2 e1 e2 r4 => round_end ho hgl hl0 hl hown2 q1 rfl e1 e2 r4
      have stop : ∀ (ex : AEx) (c : Code), jumpOf ex = some c → PostX (rbase C ks (w1.putObj (w.heap.size + 1) (.loop (rec .busy none))) J1 own1 a.tmps) (roundQ ks (strike (AV.dropA ks) σ.tmps) (st (i + 1)) Q ex) a3 w3 →
          ∃ v w', (Instr.endRound (w.heap.size + 1) (some c)).run C.P w3 = .ok v w' ∧ ∃ b, Ending.returned v = .returned (.bool b) ∧ ∃ gs' I', RStep W J gs w' I' gs' ∧ ((b = true ∧ Inv (i + 1) gs' I' w') ∨ (b = false ∧ Stop gs' I' w')) := by
        rintro ex c hj ⟨F1, hE, J2, own3, τ2, k1, k2⟩
        obtain ⟨k3, gs', k4, k5, k6⟩ := fin F1 J2 own3 τ2 hE k1 (rec .done (some c))
        refine ⟨_, _, run_endRound (some c) k3, false, rfl, gs', J2, ?_⟩
        rw [hr1, show (if (some c).isNone = true then LoopState.ready else LoopState.done) = LoopState.done from rfl]
        refine ⟨k4, .inr ⟨rfl, ?_⟩⟩
        rw [hStop]
        refine ⟨ex, c, keepV ks τ2.vars, hj, k5, World.putObj_heap_same (Array.getElem?_eq_some_iff.1 k3).1, k6, ?_⟩
        cases ex with
        | normal => cases hj
        | exit id => exact k2
        | ret => exact k2
      cases e with
      | normal =>
        obtain ⟨F1, hE, J2, own3, τ2, k1, k2⟩ := he
        obtain ⟨k3, gs', k4, k5, k6⟩ := fin F1 J2 own3 τ2 hE k1 (rec .ready none)
        refine ⟨_, _, run_endRound none k3, true, rfl, gs', J2, ?_⟩
        rw [hr1, show (if (none : Option Code).isNone = true then LoopState.ready else LoopState.done) = LoopState.ready from rfl]
        refine ⟨k4, .inl ⟨rfl, ?_⟩⟩
        rw [hInv]
        have k2 : keepV ks τ2.vars = st (i + 1) := k2
        rw [k2] at k6
        exact ⟨k5, World.putObj_heap_same (Array.getElem?_eq_some_iff.1 k3).1, k6⟩
      | ret => exact stop .ret .ret rfl he
      | exit id => exact stop (.exit id) (.exit id) rfl he
      | goto l => exact he.elim
      | panic ch => exact he.elim
      | outgrown => exact he.elim)
  have main2 : Calls C.P gf (#[.func (.yield (w.heap.size + 1)) #[] #[]] ++ lb) W1 (rangePost (fen none) 0 C.P (w.heap.size + 1) (lift F Q) { a with defers := mkD w.heap.size :: a.defers }) := by
    have hel : ∀ (W : World) s p, W.heap[w.heap.size + 1]? = some (.loop (rec s p)) → s ≠ .busy → (Instr.endLoop (w.heap.size + 1)).run C.P W = .ok p (W.putObj (w.heap.size + 1) (.loop (rec .exhausted p))) := fun W s p e hs => by
      have e9 := run_endLoop (P := C.P) e (by rw [(hr3 _ _).1]; exact hs)
      rw [hr2, (hr3 _ _).2.1] at e9
      exact e9
    refine main.mono ?_
    rintro e W ⟨v, gs, J, rfl, hfin⟩
    rcases hfin with hfin | hfin
    · rw [hInv] at hfin
      obtain ⟨e1, e2, e3⟩ := hfin
      refine ⟨none, _, hel W _ _ e2 (fun e => by cases e), ?_⟩
      · exact after_ok hC hfix hlk h hall hgk e1 e3 e2 _ hnsp hplE hend
    · rw [hStop] at hfin
      obtain ⟨ex, c, vs, hj, e1, e2, e3, e4⟩ := hfin
      refine ⟨some c, _, hel W _ _ e2 (fun e => by cases e), ?_⟩
      · have ha := after_ok (K := Q ex) hC hfix hlk h hall hgk e1 e3 e2 (rec .exhausted (some c)) hnsp e4.1 e4.2
        cases ex with
        | normal => cases hj
        | exit id =>
          cases hj
          exact wpIn_exit ha
        | ret =>
          cases hj
          exact wpIn_ret ha
  refine ⟨w.heap.size + 1, [mkD w.heap.size], W1, { target := .fn (.func gf) lb, args := #[.func (.yield (w.heap.size + 1)) #[] #[]] }, W1, gf, #[.func (.yield (w.heap.size + 1)) #[] #[]] ++ lb, W1, ?_, ?_, ?_, ?_, ?_, ?_⟩
  · rw [← hW1, hrec]; exact run_enterLoop_outer _ _ _ _ _
  · simp only [resolve, hgval]
    simp [go_sem]
  · exact fun _ _ => trivial
  · simp [invoke, go_sem, heg]
  · exact fun e => (Bool.false_ne_true e).elim
  · exact callsIn_fen main2
end
end Go.Proofs.Ytmngjlgeojbghaa.VA
end
section
namespace Go.Proofs.Ytmngjlgeojbghaa.VA
section
variable {F : Fx} {I : Imm} {own : Nat → Option Loc} {σ : ASt} {a : Act} {w w' : World} {C : Cfg} {K : ASt → Prop} {Q : Exit → Act → World → Prop}

theorem cond_ok (h : RI F I own σ a w) {c : Operand} {P1 P2 : Prop} (hw : condA σ P1 P2 (σ.rd C 0 c)) : ∃ t, a.eval c = .bool t ∧ (t = true → P1) ∧ (t = false → P2) := by
  have hc := rd_ok h C 0 c
  generalize σ.rd C 0 c = x at hc hw
  cases x <;> simp only [condA] at hw <;> try exact hw.elim
  rename_i t
  exact ⟨t, ar_bool ((rv_imm rfl).1 hc), hw.1, hw.2⟩

/-- No deferred call. -/
def noDeferC : Code → Bool
  | .region _ ops _ => noDeferB ops
  | .seq a b => noDeferC a && noDeferC b
  | .cond _ a b => noDeferC a && noDeferC b
  | .block _ c => noDeferC c
  | .loop c => noDeferC c
  | .scope c => noDeferC c
  | .rangeFunc _ _ a b => noDeferC a && noDeferC b
  | _ => true
/-- The abstract weakest precondition of code is one. -/
theorem aco_ok : ∀ (c : Code), noDeferC c = true → ∀ (C : Cfg), CfgOk C → ∀ (F : Fx), F.C = C → F.open → F.spo → ∀ (r : Option Nat), (r = none ∨ C.inr = true) → ∀ (Q : AEx → ASt → Prop) (σ : ASt) (I : Imm) (own : Nat → Option Loc) (a : Act) (w : World),
    RI F I own σ a w → aco C c Q σ → c.wpIn (fen r) 0 C.P (lift F Q) a w := by
  intro c
  induction c with
  | skip => exact fun hd C hok F hC hlk hsp r hr Q σ I own a w h hw => wpIn_skip (Post.x ⟨I, own, σ, h, hw⟩ hlk)
  | scope c ih =>
    intro hd C hok F hC hlk hsp r hr Q σ I own a w h hw
    refine wpIn_scope_straight (wpIn_mono (ih hd C hok F hC hlk hsp r hr Q σ I own a w h hw) (fun e a' w' hq => ?_))
    cases e <;> exact hq
  | label l => exact fun hd C hok F hC hlk hsp r hr Q σ I own a w h hw => wpIn_label (Post.x ⟨I, own, σ, h, hw⟩ hlk)
  | region id ops draws =>
    intro hd C hok F hC hlk hsp r hr Q σ I own a w h hw
    have hQ : ∀ a w, Post F (fun σ' => Q .normal (σ'.keep C.live)) a w → lift F Q .normal a w := fun a w ⟨J, own', τ, h1, h2⟩ => Post.x ⟨J, own', _, h1.keep _, h2⟩ hlk
    cases draws with
    | false => exact region_in (noDefer_of hd) lift_lets (aops_ok hC hok hlk hsp hQ ops.toList σ I own a w h hw)
    | true =>
      obtain ⟨B, ns, t, hb, hw⟩ := hw
      simp only [Bool.and_eq_true, decide_eq_true_eq] at hb
      have h1 := h.grow (fr_drew w)
      obtain ⟨h2, hB⟩ := h1.rebase (lv := lvOf ns) (lk := fun b => ∃ k cs, lvOf ns k = true ∧ look σ.vars k = some cs ∧ a.tmps[k]? = some (.pointer (some ⟨b, 0, none⟩))) (fun b ⟨k, cs, e0, e1, e2⟩ => by
        obtain ⟨b', f1, f2, _⟩ := h1.boxes k cs e1
        rw [e2] at f1
        cases f1
        exact ⟨k, f2, e0⟩) (fun k e0 cs b e1 e2 => ⟨k, cs, e0, e1, e2⟩)
      refine wpIn_region_any hok.mixed (any_in (noDefer_of hd) lift_lets _ _ _ _ (Held.any _ _ I a _ (ord_ok hlk hC hok hb.2.1 hb.1 hQ (fun c a w h => h) t true _ _ σ I own _ a _ hb.2.2.1 hb.2.2.2 hB (fun _ => ⟨rfl, rfl, fun b _ => rfl⟩) (fun e => by cases e) h2 hw)))
  | seq x y ihx ihy =>
    intro hd C hok F hC hlk hsp r hr Q σ I own a w h hw
    simp only [noDeferC, Bool.and_eq_true] at hd
    refine wpIn_seq (wpIn_mono (ihx hd.1 C hok F hC hlk hsp r hr _ σ I own a w h hw) ?_)
    intro e a' w' hq
    cases e with
    | normal =>
      obtain ⟨F2, hE, J, own', τ, h1, h2⟩ := hq
      exact wpIn_mono (ihy hd.2 C hok F2 (hE.cfg.trans hC) hE.opn (hE.spo hsp) r hr Q τ J own' a' w' h1 h2) fun e a w hq => lift_trans hE hq
    | exit id => exact hq
    | ret => exact hq
    | goto l => exact hq.elim
    | panic ch => exact hq.elim
    | outgrown => exact hq.elim
  | cond c x y ihx ihy =>
    intro hd C hok F hC hlk hsp r hr Q σ I own a w h hw
    simp only [noDeferC, Bool.and_eq_true] at hd
    obtain ⟨t, ht, h1, h2⟩ := cond_ok h hw
    exact wpIn_cond_split ht (fun e => ihx hd.1 C hok F hC hlk hsp r hr Q σ I own a w h (h1 e)) (fun e => ihy hd.2 C hok F hC hlk hsp r hr Q σ I own a w h (h2 e))
  | block id c ih =>
    intro hd C hok F hC hlk hsp r hr Q σ I own a w h hw
    refine wpIn_block (wpIn_mono (ih hd C hok F hC hlk hsp r hr _ σ I own a w h hw) ?_)
    intro e a' w' hq
    cases e with
    | normal => exact hq
    | exit i =>
      obtain ⟨F2, hE, J, own', τ, h1, h2⟩ := hq
      simp only [AEx.inBlock] at h2
      simp only [Exit.inBlock]
      split
      · rename_i e
        rw [if_pos e] at h2
        exact ⟨F2, hE, J, own', τ, h1, h2⟩
      · rename_i e
        rw [if_neg e] at h2
        exact ⟨F2, hE, J, own', τ, h1, h2⟩
    | ret => exact hq
    | goto l => exact hq.elim
    | panic ch => exact hq.elim
    | outgrown => exact hq.elim
  | loop c ih =>
    intro hd C hok F hC hlk hsp r hr Q σ I own a w h hw
    obtain ⟨L, n, hw⟩ := hw
    refine wpIn_loop_rounds n ?_
    have key : ∀ (n : Nat) (F2 : Fx) (σ : ASt) (I : Imm) (own : Nat → Option Loc) (a : Act) (w : World), Ext F F2 → RI F2 I own σ a w → arounds L (aco C c) Q n σ → Code.roundsIn (fen r) 0 C.P c (lift F Q) n a w := by
      intro n
      induction n with
      | zero => exact fun F2 σ I own a w hE h hw => hw.elim
      | succ n ihn =>
        intro F2 σ I own a w hE h hw
        refine wpIn_mono (ih hd C hok F2 (hE.cfg.trans hC) hE.opn (hE.spo hsp) r hr _ _ I own a w (h.keep L) hw) ?_
        intro e a' w' hq
        cases e with
        | normal => obtain ⟨F3, hE3, J, own', τ, h1, h2⟩ := hq; exact ihn F3 τ J own' a' w' (hE.trans hE3) h1 h2
        | exit id => exact PostX.trans hE hq
        | ret => exact PostX.trans hE hq
        | goto l => exact hq.elim
        | panic ch => exact hq.elim
        | outgrown => exact hq.elim
    exact key n F σ I own a w (Ext.refl hlk) h hw
  | exit id => exact fun hd C hok F hC hlk hsp r hr Q σ I own a w h hw => wpIn_exit (Post.x ⟨I, own, σ, h, hw⟩ hlk)
  | ret => exact fun hd C hok F hC hlk hsp r hr Q σ I own a w h hw => wpIn_ret (Post.x ⟨I, own, σ, h, hw⟩ hlk)
  | rangeFunc g ps assign body iha ihb =>
    intro hd C hok F hC hlk hsp r hr Q σ I own a w h hw
    simp only [noDeferC, Bool.and_eq_true] at hd
    cases assign with
    | region id ops draws =>
      cases draws with
      | false =>
        have hinr : C.inr = false := by obtain ⟨_, _, _, _, _, ⟨e, _⟩, _⟩ := hw; exact e
        obtain rfl : r = none := hr.resolve_right (by rw [hinr]; decide)
        refine range_ok hok hd.1 (fun C' hok' hi' hP F' hC' hlk' hsp' r Q σ I own a w h hw => ?_) hC hlk h hw
        rw [← hP]
        exact ihb hd.2 C' hok' F' hC' hlk' hsp' r (.inr hi') Q σ I own a w h hw
      | true => exact hw.elim
    | _ => exact hw.elim
  | _ => exact fun hd C hok F hC hlk hsp r hr Q σ I own a w h hw => hw.elim

end
end Go.Proofs.Ytmngjlgeojbghaa.VA
end
section
namespace Go.Proofs.Ytmngjlgeojbghaa.VA
section
variable {C : Cfg} {Q : AEx → ASt → Prop} {k : List Todo} {σ τ : ASt}

theorem bq_t (b : Bool) : (b == true) = b := by cases b <;> rfl
theorem bq_f (b : Bool) : (b == false) = !b := by cases b <;> rfl
theorem then_code (b : Code) : AEx.then (aco C b (exec C Q k)) (exec C Q k) = exec C Q (.code b :: k) := by
  funext e σ; cases e <;> rfl
theorem ex_seq (a b : Code) : exec C Q (.code (.seq a b) :: k) .normal σ = exec C Q (.code a :: .code b :: k) .normal σ := by
  show aco C a (AEx.then (aco C b (exec C Q k)) (exec C Q k)) σ = _
  rw [then_code]; rfl
theorem in_block (id : Nat) : AEx.inBlock id (exec C Q k) = exec C Q (.inBlock id :: k) := by
  funext e σ; cases e <;> rfl
theorem ex_block (id : Nat) (c : Code) : exec C Q (.code (.block id c) :: k) .normal σ = exec C Q (.code c :: .inBlock id :: k) .normal σ := by
  show aco C c (AEx.inBlock id (exec C Q k)) σ = _
  rw [in_block]; rfl
theorem ex_region (id : Nat) (ops : Array Oper) : exec C Q (.code (.region id ops false) :: k) .normal σ = exec C Q (.ops ops.toList ops.toList :: .keep :: k) .normal σ := propext Iff.rfl
theorem ex_ops_nil (all : List Oper) : exec C Q (.ops all [] :: k) .normal σ = exec C Q k .normal σ := propext Iff.rfl
theorem ex_ops_cons (all : List Oper) (o : Oper) (r : List Oper) : exec C Q (.ops all (o :: r) :: k) .normal σ = exec C Q (.res (stepR C all σ o) :: .ops all r :: k) .normal σ := propext Iff.rfl
theorem ex_ok : exec C Q (.res (.ok τ) :: k) .normal σ = exec C Q k .normal τ := propext Iff.rfl
theorem ex_need (p : Prop) (r : R) : exec C Q (.res (.need p r) :: k) .normal σ = (p ∧ exec C Q (.res r :: k) .normal σ) := propext Iff.rfl
theorem ex_split_t (r s : R) : exec C Q (.res (.split true r s) :: k) .normal σ = exec C Q (.res r :: k) .normal σ := by
  show ((true = true → _) ∧ (true = false → _)) = _; simp; rfl
theorem ex_split_f (r s : R) : exec C Q (.res (.split false r s) :: k) .normal σ = exec C Q (.res s :: k) .normal σ := by
  show ((false = true → _) ∧ (false = false → _)) = _; simp; rfl
theorem ex_both (p : Prop) (r s : R) : exec C Q (.res (.both p r s) :: k) .normal σ = ((p → exec C Q (.res r :: k) .normal σ) ∧ exec C Q (.res s :: k) .normal σ) := propext Iff.rfl
theorem ex_bothI {p : Prop} {r s : R} (h1 : p → exec C Q (.res r :: k) .normal σ) (h2 : exec C Q (.res s :: k) .normal σ) : exec C Q (.res (.both p r s) :: k) .normal σ := ⟨h1, h2⟩
theorem ex_split {b : Bool} {r s : R} (h1 : b = true → exec C Q (.res r :: k) .normal σ) (h2 : b = false → exec C Q (.res s :: k) .normal σ) : exec C Q (.res (.split b r s) :: k) .normal σ := ⟨h1, h2⟩
theorem ex_cond (c : Operand) (a b : Code) : exec C Q (.code (.cond c a b) :: k) .normal σ = exec C Q (.br (σ.rd C 0 c) a b :: k) .normal σ := propext Iff.rfl
theorem ex_br_t (a b : Code) : exec C Q (.br (.bool true) a b :: k) .normal σ = exec C Q (.code a :: k) .normal σ := by
  show ((true = true → _) ∧ (true = false → _)) = _; simp; rfl
theorem ex_br_f (a b : Code) : exec C Q (.br (.bool false) a b :: k) .normal σ = exec C Q (.code b :: k) .normal σ := by
  show ((false = true → _) ∧ (false = false → _)) = _; simp; rfl
theorem ex_br {t : Bool} {a b : Code} (h1 : t = true → exec C Q (.code a :: k) .normal σ) (h2 : t = false → exec C Q (.code b :: k) .normal σ) : exec C Q (.br (.bool t) a b :: k) .normal σ := ⟨h1, h2⟩
theorem ex_skip : exec C Q (.code .skip :: k) .normal σ = exec C Q k .normal σ := propext Iff.rfl
theorem ex_label (l : Nat) : exec C Q (.code (.label l) :: k) .normal σ = exec C Q k .normal σ := propext Iff.rfl
theorem ex_scope (c : Code) : exec C Q (.code (.scope c) :: k) .normal σ = exec C Q (.code c :: k) .normal σ := propext Iff.rfl
theorem ex_exit (id : Nat) : exec C Q (.code (.exit id) :: k) .normal σ = exec C Q k (.exit id) σ := propext Iff.rfl
theorem ex_ret : exec C Q (.code .ret :: k) .normal σ = exec C Q k .ret σ := propext Iff.rfl
theorem ex_keep : exec C Q (.keep :: k) .normal σ = exec C Q k .normal (σ.keep C.live) := propext Iff.rfl
theorem ex_inBlock_n (id : Nat) : exec C Q (.inBlock id :: k) .normal σ = exec C Q k .normal σ := propext Iff.rfl
theorem ex_inBlock_e (id i : Nat) : exec C Q (.inBlock id :: k) (.exit i) σ = if i = id then exec C Q k .normal σ else exec C Q k (.exit i) σ := propext Iff.rfl
theorem ex_inBlock_same (id : Nat) : exec C Q (.inBlock id :: k) (.exit id) σ = exec C Q k .normal σ := if_pos rfl
theorem ex_inBlock_r (id : Nat) : exec C Q (.inBlock id :: k) .ret σ = exec C Q k .ret σ := propext Iff.rfl
theorem ex_code_e (c : Code) (i : Nat) : exec C Q (.code c :: k) (.exit i) σ = exec C Q k (.exit i) σ := propext Iff.rfl
theorem ex_code_r (c : Code) : exec C Q (.code c :: k) .ret σ = exec C Q k .ret σ := propext Iff.rfl
theorem ex_rounds_e (L : List Nat) (n : Nat) (c : Code) (i : Nat) : exec C Q (.rounds L n c :: k) (.exit i) σ = exec C Q k (.exit i) σ := propext Iff.rfl
theorem ex_rounds_r (L : List Nat) (n : Nat) (c : Code) : exec C Q (.rounds L n c :: k) .ret σ = exec C Q k .ret σ := propext Iff.rfl
theorem ex_draw {id : Nat} {ops : Array Oper} (B ns : List Nat) (t : Ord) (hb : (Region.noSelect ops && (ops.toList.all (fun o => madeB ns o && !specO C o) && (okOrd ops B true (Array.replicate ops.size false) t && decide (t.depth ≤ ops.size)))) = true) (h : exec C Q (.ord ops.toList ns t :: .keep :: k) .normal σ) :
    exec C Q (.code (.region id ops true) :: k) .normal σ := ⟨B, ns, t, hb, h⟩
theorem ex_ord_fin (all : List Oper) (ns : List Nat) : exec C Q (.ord all ns .fin :: k) .normal σ = exec C Q k .normal σ := propext Iff.rfl
theorem ex_ord_quiet (all : List Oper) (ns : List Nat) (i : Nat) (t : Ord) : exec C Q (.ord all ns (.quiet i t) :: k) .normal σ = exec C Q (.oq all[i]? true ns all :: .ord all ns t :: k) .normal σ := propext Iff.rfl
theorem ex_ord_one (all : List Oper) (ns : List Nat) (i : Nat) (t : Ord) : exec C Q (.ord all ns (.one i t) :: k) .normal σ = exec C Q (.oq all[i]? false ns all :: .ord all ns t :: k) .normal σ := propext Iff.rfl
theorem ex_ord_two (all : List Oper) (ns : List Nat) (i j : Nat) (t u : Ord) : exec C Q (.ord all ns (.two i t j u) :: k) .normal σ = (exec C Q (.oq all[i]? false ns all :: .ord all ns t :: k) .normal σ ∧ exec C Q (.oq all[j]? false ns all :: .ord all ns u :: k) .normal σ) := propext Iff.rfl
theorem ex_ord_three (all : List Oper) (ns : List Nat) (i j m : Nat) (t u v : Ord) : exec C Q (.ord all ns (.three i t j u m v) :: k) .normal σ = (exec C Q (.oq all[i]? false ns all :: .ord all ns t :: k) .normal σ ∧ exec C Q (.oq all[j]? false ns all :: .ord all ns u :: k) .normal σ ∧ exec C Q (.oq all[m]? false ns all :: .ord all ns v :: k) .normal σ) := propext Iff.rfl
theorem ex_ord_lone (all : List Oper) (ns : List Nat) (i : Nat) (t : Ord) : exec C Q (.ord all ns (.lone i t) :: k) .normal σ = exec C Q (.ol all[i]? ns all :: .ord all ns t :: k) .normal σ := propext Iff.rfl
theorem ex_ol (o : Oper) (ns : List Nat) (all : List Oper) : exec C Q (.ol (some o) ns all :: k) .normal σ = ((o.guard.isNone && loneOp C ns σ o.op) = true ∧ exec C Q (.res (stepR C all σ o) :: k) .normal σ) := propext Iff.rfl
theorem ex_ord_unlock (all : List Oper) (ns : List Nat) (t : Ord) : exec C Q (.ord all ns (.unlock t) :: k) .normal σ = exec C Q (.ord all ns t :: k) .normal σ := propext Iff.rfl
theorem ex_oq_t (o : Oper) (ns : List Nat) (all : List Oper) : exec C Q (.oq (some o) true ns all :: k) .normal σ = (quietOp C ns σ o.op = true ∧ exec C Q (.res (stepR C all σ o) :: k) .normal σ) := propext Iff.rfl
theorem ex_oq_f (o : Oper) (ns : List Nat) (all : List Oper) : exec C Q (.oq (some o) false ns all :: k) .normal σ = exec C Q (.res (stepR C all σ o) :: k) .normal σ := propext Iff.rfl
theorem ex_nil (e : AEx) : exec C Q [] e σ = Q e σ := propext Iff.rfl

/-- The rounds of a loop, one by one. -/
theorem ex_round (L : List Nat) (n : Nat) (c : Code) : exec C Q (.rounds L (n + 1) c :: k) .normal σ = exec C Q (.code c :: .rounds L n c :: k) .normal (σ.keep L) := by
  show aco C c (AEx.then (arounds L (aco C c) (exec C Q k) n) (exec C Q k)) (σ.keep L) = aco C c (exec C Q (.rounds L n c :: k)) (σ.keep L)
  congr 1
  funext e σ; cases e <;> rfl
/-- A loop over a function: round by round. -/
theorem ex_range (ks : List Nat) (t : Nat) (p : Imm → Value → Prop) (xs : List AV) (st : Nat → List (Nat × List AV)) {g : Operand} {ps : Array Tmp} {rid : Nat} {ops : Array Oper} {body : Code}
    (h : C.inr = false ∧ C.fix = [] ∧ ps = #[t] ∧ t < C.n ∧ ks.contains t = false ∧ ks.all (fun k => (look σ.vars k).isSome) = true ∧ σ.rd C 0 g = .ext p ∧ Iter C.P p xs ∧ keepV ks σ.vars = st 0 ∧ plainVs (st xs.length) ∧ ∀ f, C.spc f = false)
    (hs : ∀ i x, xs[i]? = some x → x.isImm = true ∧ exec (C.round ks) (roundQ ks (VA.strike (AV.dropA ks) σ.tmps) (st (i + 1)) (exec C Q k)) [.ops ops.toList ops.toList, .keep, .code body] .normal ⟨ins t x (VA.strike (AV.dropR ks) σ.tmps), st i, []⟩)
    (he : exec C Q k .normal ⟨VA.strike (AV.dropA ks) σ.tmps, st xs.length, []⟩) : exec C Q (.code (.rangeFunc g ps (.region rid ops false) body) :: k) .normal σ :=
  ⟨ks, t, p, xs, st, h, hs, he⟩
theorem ex_loop (L : List Nat) (n : Nat) {c : Code} (h : exec C Q (.rounds L n c :: k) .normal σ) : exec C Q (.code (.loop c) :: k) .normal σ := ⟨L, n, h⟩
/-- A loop by its invariant: at the begin of each round the state is 'st a' for some a. -/
theorem ex_iter {α : Type} (L : List Nat) (st : α → ASt) (inv : α → Prop) (μ : α → Nat) (a : α) {c : Code} (hs : σ.keep L = st a) (h0 : inv a)
    (step : ∀ (n : Nat) (a : α), inv a → (∀ b τ, inv b → μ b < μ a → τ.keep L = st b → exec C Q (.rounds L n c :: k) .normal τ) → exec C Q (.code c :: .rounds L n c :: k) .normal (st a)) :
    exec C Q (.code (.loop c) :: k) .normal σ := by
  have key : ∀ (n : Nat) (a : α) (τ : ASt), inv a → μ a < n → τ.keep L = st a → exec C Q (.rounds L n c :: k) .normal τ := by
    intro n
    induction n with
    | zero => intro a τ _ h; omega
    | succ n ih =>
      intro a τ ha hn hτ
      rw [ex_round, hτ]
      exact step n a ha fun b τ' hb hlt hτ' => ih b τ' hb (by omega) hτ'
  exact ex_loop L (μ a + 1) (key _ a σ h0 (by omega) hs)

theorem wrRes_cases (d : Option Nat) (v : AV) : (∃ τ, σ.wrRes C d v = .ok τ) ∨ σ.wrRes C d v = .fail := by
  unfold ASt.wrRes
  split
  · exact .inl ⟨_, rfl⟩
  · unfold R.chk
    split
    · unfold ASt.wrResTo
      split
      · exact .inl ⟨_, rfl⟩
      · exact .inl ⟨_, rfl⟩
      · unfold R.chk; split
        · exact .inl ⟨_, rfl⟩
        · exact .inr rfl
    · exact .inr rfl
/-- A call: by its contract. -/
theorem ex_call {f : FuncId} {ars : List AV} {d : Option Nat} {res : AV} (h : Contract C.P f ars res)
    (hk : exec C Q (.res (τ.wrRes C d res) :: k) .normal σ) : exec C Q (.res (.call f ars d τ) :: k) .normal σ := by
  have hd : Dulls ars ars := by
    clear h hk
    induction ars with
    | nil => exact .nil
    | cons a ars ih => exact .cons (.refl a) ih
  rcases wrRes_cases (C := C) (σ := τ) d res with ⟨τ', h'⟩ | h'
  · rw [h'] at hk
    exact .inl ⟨ars, res, hd, .inl h, τ', h', hk⟩
  · rw [h'] at hk
    exact hk.elim
theorem ex_extern {f : FuncId} {ars : List AV} {d : Option Nat} {res : AV} (h : Extern C.P f ars res)
    (hk : exec C Q (.res (τ.wrRes C d res) :: k) .normal σ) : exec C Q (.res (.call f ars d τ) :: k) .normal σ := by
  have hd : Dulls ars ars := by
    clear h hk
    induction ars with
    | nil => exact .nil
    | cons a ars ih => exact .cons (.refl a) ih
  rcases wrRes_cases (C := C) (σ := τ) d res with ⟨τ', h'⟩ | h'
  · rw [h'] at hk
    exact .inl ⟨ars, res, hd, .inr (.inl h), τ', h', hk⟩
  · rw [h'] at hk
    exact hk.elim
/-- .. by a contract that keeps marks. -/
theorem ex_through {f : FuncId} {ars : List AV} {d : Option Nat} {res : AV} (h : Through C.P f ars res)
    (hk : exec C Q (.res (τ.wrRes C d res) :: k) .normal σ) : exec C Q (.res (.call f ars d τ) :: k) .normal σ := by
  have hd : Dulls ars ars := by
    clear h hk
    induction ars with
    | nil => exact .nil
    | cons a ars ih => exact .cons (.refl a) ih
  rcases wrRes_cases (C := C) (σ := τ) d res with ⟨τ', h'⟩ | h'
  · rw [h'] at hk
    exact .inl ⟨ars, res, hd, .inr (.inr ⟨rfl, h⟩), τ', h', hk⟩
  · rw [h'] at hk
    exact hk.elim
theorem ex_call_dull {f : FuncId} {ars bs : List AV} {d : Option Nat} {res : AV} (hd : Dulls ars bs) (h : Contract C.P f bs res)
    (hk : exec C Q (.res (τ.wrRes C d res) :: k) .normal σ) : exec C Q (.res (.call f ars d τ) :: k) .normal σ := by
  rcases wrRes_cases (C := C) (σ := τ) d res with ⟨τ', h'⟩ | h'
  · rw [h'] at hk
    exact .inl ⟨bs, res, hd, .inl h, τ', h', hk⟩
  · rw [h'] at hk
    exact hk.elim
/-- A call whose result is put by. -/
theorem ex_fork {f : FuncId} {ars bs : List AV} {d : Option Nat} {res : AV} (hd : Dulls ars bs) (h : Contract C.P f bs res) (h1 : ars.all AV.isImm = true) (h2 : res.stowBT = true)
    (hk : ∀ s, exec C Q (.res ((τ.stow s).wrRes C d (res.stowT s)) :: k) .normal σ) : exec C Q (.res (.special f ars d τ) :: k) .normal σ := by
  refine .inl ⟨bs, res, hd, h, h1, h2, fun s => ?_⟩
  have hk := hk s
  rcases wrRes_cases (C := C) (σ := τ.stow s) d (res.stowT s) with ⟨τ', h'⟩ | h'
  · rw [h'] at hk
    exact ⟨τ', h', hk⟩
  · rw [h'] at hk
    exact hk.elim
/-- A call that asks about what was put by. -/
theorem ex_ask (s : Stash) {f : FuncId} {ars bs : List AV} {d : Option Nat} {res : AV} (hs : s ∈ τ.st) (hd : Bys s ars bs) (h : Contract C.P f bs res) (h2 : res.scal = true)
    (hk : exec C Q (.res (τ.wrRes C d res) :: k) .normal σ) : exec C Q (.res (.special f ars d τ) :: k) .normal σ := by
  refine .inr (.inl ⟨s, bs, res, hs, hd, h, h2, ?_⟩)
  rcases wrRes_cases (C := C) (σ := τ) d res with ⟨τ', h'⟩ | h'
  · rw [h'] at hk
    exact ⟨τ', h', hk⟩
  · rw [h'] at hk
    exact hk.elim
/-- A call that writes over its argument. -/
theorem ex_spoil (s : Stash) (l1 l2 : List Stash) {f : FuncId} {y x : AV} {d : Option Nat} (hl : C.spl f = true) (hs : τ.st = l1 ++ s :: l2) (hi : Sty s y x) (h : Spoil C.P f x)
    (hk : exec C Q (.res ((τ.unstow (l1 ++ l2)).wrRes C d (.tup [])) :: k) .normal σ) : exec C Q (.res (.special f [y] d τ) :: k) .normal σ := by
  refine .inr (.inr (.inl ⟨s, l1, l2, y, x, hl, hs, rfl, hi, h, ?_⟩))
  rcases wrRes_cases (C := C) (σ := τ.unstow (l1 ++ l2)) d (.tup []) with ⟨τ', h'⟩ | h'
  · rw [h'] at hk
    exact ⟨τ', h', hk⟩
  · rw [h'] at hk
    exact hk.elim
/-- A call like any other. -/
theorem ex_plain {f : FuncId} {ars bs : List AV} {d : Option Nat} {res : AV} (hd : Dulls ars bs) (h : Contract C.P f bs res)
    (hk : exec C Q (.res (τ.wrRes C d res) :: k) .normal σ) : exec C Q (.res (.special f ars d τ) :: k) .normal σ := by
  refine .inr (.inr (.inr (.inl ⟨bs, res, hd, h, ?_⟩)))
  rcases wrRes_cases (C := C) (σ := τ) d res with ⟨τ', h'⟩ | h'
  · rw [h'] at hk
    exact ⟨τ', h', hk⟩
  · rw [h'] at hk
    exact hk.elim
/-- A call with two results, each put by. -/
theorem ex_fork2 {f : FuncId} {ars bs : List AV} {d : Option Nat} {x y z : AV} (hd : Dulls ars bs) (h : Contract2 C.P f bs x y z) (h1 : ars.all AV.isImm = true) (h2 : x.stowB = true) (h3 : y.stowB = true) (h4 : z.scal = true)
    (hk : ∀ s t, exec C Q (.res (((τ.stow t).stow s).wrRes C d (.tup [x.stowA s, y.stowA t, z])) :: k) .normal σ) : exec C Q (.res (.special f ars d τ) :: k) .normal σ := by
  refine .inr (.inr (.inr (.inr ⟨bs, x, y, z, hd, h, h1, h2, h3, h4, fun s t => ?_⟩)))
  have hk := hk s t
  rcases wrRes_cases (C := C) (σ := (τ.stow t).stow s) d (.tup [x.stowA s, y.stowA t, z]) with ⟨τ', h'⟩ | h'
  · rw [h'] at hk
    exact ⟨τ', h', hk⟩
  · rw [h'] at hk
    exact hk.elim
/-- A call with a colouring. -/
theorem ex_ghost {f : FuncId} {ars bs : List AV} {d : Option Nat} {res : (Nat → Option Nat) → AV} (hd : Dulls ars bs) (h : Ghost C.P f bs res)
    (hk : ∀ col, exec C Q (.res (τ.wrRes C d (res col)) :: k) .normal σ) : exec C Q (.res (.call f ars d τ) :: k) .normal σ := by
  refine .inr ⟨bs, res, hd, h, fun col => ?_⟩
  have hk := hk col
  rcases wrRes_cases (C := C) (σ := τ) d (res col) with ⟨τ', h'⟩ | h'
  · rw [h'] at hk
    exact ⟨τ', h', hk⟩
  · rw [h'] at hk
    exact hk.elim
end
end Go.Proofs.Ytmngjlgeojbghaa.VA
end
section
namespace Go.Proofs.Ytmngjlgeojbghaa.VA
section
variable {C : Cfg} {Q : AEx → ASt → Prop} {k : List Todo} {σ τ : ASt}
/-- Two ways through a region that differ in what is forgotten at its end and in one temporary alone. -/
theorem exec_app (k : List Todo) : ∀ (l : List Todo) (e : AEx) (σ : ASt), exec C Q (l ++ k) e σ = exec C (fun e τ => exec C Q k e τ) l e σ := by
  intro l
  induction l with
  | nil => intro e σ; cases e <;> rfl
  | cons x l ih =>
    intro e σ
    have ihf : exec C Q (l ++ k) = exec C (fun e τ => exec C Q k e τ) l := by funext e σ; exact ih e σ
    cases x <;> cases e <;> try simp only [List.cons_append, exec, ihf]
    rename_i o q ns all
    cases q <;> simp only [List.cons_append, exec, ihf]
theorem ex_join {a b : Todo} (τ0 : ASt) (h1 : exec C (fun e τ => e = .normal ∧ τ.keep C.live = τ0) [a, b] .normal σ) (h2 : exec C Q k .normal τ0) (hm : ∀ (Q1 Q2 : AEx → ASt → Prop), (∀ e σ, Q1 e σ → Q2 e σ) → exec C Q1 [a, b] .normal σ → exec C Q2 [a, b] .normal σ) : exec C Q (a :: b :: .keep :: k) .normal σ := by
  show exec C Q ([a, b] ++ (.keep :: k)) .normal σ
  rw [exec_app]
  refine hm _ _ (fun e τ h => ?_) h1
  obtain ⟨rfl, rfl⟩ := h
  exact h2
theorem R.wp_mono {C : Cfg} {K K' : ASt → Prop} (h : ∀ σ, K σ → K' σ) : ∀ r : R, r.wp C K → r.wp C K'
  | .ok _, k => h _ k
  | .fail, k => k
  | .need _ r, k => ⟨k.1, R.wp_mono h r k.2⟩
  | .split _ r s, k => ⟨fun e => R.wp_mono h r (k.1 e), fun e => R.wp_mono h s (k.2 e)⟩
  | .both _ r s, k => ⟨fun e => R.wp_mono h r (k.1 e), R.wp_mono h s k.2⟩
  | .call _ _ _ _, .inl ⟨bs, res, h1, h2, σ', h3, h4⟩ => .inl ⟨bs, res, h1, h2, σ', h3, h _ h4⟩
  | .call _ _ _ _, .inr ⟨bs, res, h1, h2, h3⟩ => .inr ⟨bs, res, h1, h2, fun col => ⟨_, (h3 col).choose_spec.1, h _ (h3 col).choose_spec.2⟩⟩
  | .special _ _ _ _, .inl ⟨bs, res, h1, h2, h3, h4, h5⟩ => .inl ⟨bs, res, h1, h2, h3, h4, fun s => ⟨_, (h5 s).choose_spec.1, h _ (h5 s).choose_spec.2⟩⟩
  | .special _ _ _ _, .inr (.inl ⟨s, bs, res, h1, h2, h3, h4, σ', h5, h6⟩) => .inr (.inl ⟨s, bs, res, h1, h2, h3, h4, σ', h5, h _ h6⟩)
  | .special _ _ _ _, .inr (.inr (.inl ⟨s, l1, l2, y, x, h0, h1, h2, h3, h4, σ', h5, h6⟩)) => .inr (.inr (.inl ⟨s, l1, l2, y, x, h0, h1, h2, h3, h4, σ', h5, h _ h6⟩))
  | .special _ _ _ _, .inr (.inr (.inr (.inl ⟨bs, res, h1, h2, σ', h5, h6⟩))) => .inr (.inr (.inr (.inl ⟨bs, res, h1, h2, σ', h5, h _ h6⟩)))
  | .special _ _ _ _, .inr (.inr (.inr (.inr ⟨bs, x, y, z, h1, h2, h3, h4, h5, h6, h7⟩))) => .inr (.inr (.inr (.inr ⟨bs, x, y, z, h1, h2, h3, h4, h5, h6, fun s t => ⟨_, (h7 s t).choose_spec.1, h _ (h7 s t).choose_spec.2⟩⟩)))
theorem aops_mono {all : List Oper} {K K' : ASt → Prop} (h : ∀ σ, K σ → K' σ) : ∀ (l : List Oper) (σ : ASt), aops C all K l σ → aops C all K' l σ
  | [], _, k => h _ k
  | o :: r, _, k => R.wp_mono (fun τ => aops_mono h r τ) _ k
theorem aord_mono {all : List Oper} {ns : List Nat} {K K' : ASt → Prop} (h : ∀ σ, K σ → K' σ) : ∀ (t : Ord) (σ : ASt), aord C all ns K t σ → aord C all ns K' t σ
  | .fin, _, k => h _ k
  | .quiet i t, σ, k => by
    simp only [aord] at k ⊢
    cases e : all[i]? with
    | none => rw [e] at k; exact k
    | some o => rw [e] at k; exact ⟨k.1, R.wp_mono (fun τ => aord_mono h t τ) _ k.2⟩
  | .one i t, σ, k => by
    simp only [aord] at k ⊢
    cases e : all[i]? with
    | none => rw [e] at k; exact k
    | some o => rw [e] at k; exact R.wp_mono (fun τ => aord_mono h t τ) _ k
  | .two i t j u, σ, k => by
    simp only [aord] at k ⊢
    refine ⟨?_, ?_⟩
    · cases e : all[i]? with
      | none => rw [e] at k; exact k.1
      | some o => rw [e] at k; exact R.wp_mono (fun τ => aord_mono h t τ) _ k.1
    · cases e : all[j]? with
      | none => rw [e] at k; exact k.2
      | some o => rw [e] at k; exact R.wp_mono (fun τ => aord_mono h u τ) _ k.2
  | .three i t j u m v, σ, k => by
    simp only [aord] at k ⊢
    refine ⟨?_, ?_, ?_⟩
    · cases e : all[i]? with
      | none => rw [e] at k; exact k.1
      | some o => rw [e] at k; exact R.wp_mono (fun τ => aord_mono h t τ) _ k.1
    · cases e : all[j]? with
      | none => rw [e] at k; exact k.2.1
      | some o => rw [e] at k; exact R.wp_mono (fun τ => aord_mono h u τ) _ k.2.1
    · cases e : all[m]? with
      | none => rw [e] at k; exact k.2.2
      | some o => rw [e] at k; exact R.wp_mono (fun τ => aord_mono h v τ) _ k.2.2
  | .lone i t, σ, k => by
    simp only [aord] at k ⊢
    cases e : all[i]? with
    | none => rw [e] at k; exact k
    | some o => rw [e] at k; exact ⟨k.1, R.wp_mono (fun τ => aord_mono h t τ) _ k.2⟩
  | .unlock t, σ, k => aord_mono h t σ k
/-- .. behind a choice within a straight region, and within a drawn one: temporary t becomes v, all other ones that live stay. -/
theorem ex_joinB {r : R} {all l : List Oper} (t : Nat) (v : Bool) (h1 : exec C (fun e τ => e = .normal ∧ τ.keep C.live = ASt.keep { σ with tmps := ins t (.bool v) σ.tmps } C.live) [.res r, .ops all l] .normal σ)
    (h2 : exec C Q k .normal (ASt.keep { σ with tmps := ins t (.bool v) σ.tmps } C.live)) : exec C Q (.res r :: .ops all l :: .keep :: k) .normal σ :=
  ex_join _ h1 h2 fun Q1 Q2 hq h => R.wp_mono (fun τ => aops_mono (fun τ' => hq _ τ') l τ) r h
theorem ex_joinD {r : R} {all : List Oper} {ns : List Nat} {u : Ord} (t : Nat) (v : Bool) (h1 : exec C (fun e τ => e = .normal ∧ τ.keep C.live = ASt.keep { σ with tmps := ins t (.bool v) σ.tmps } C.live) [.res r, .ord all ns u] .normal σ)
    (h2 : exec C Q k .normal (ASt.keep { σ with tmps := ins t (.bool v) σ.tmps } C.live)) : exec C Q (.res r :: .ord all ns u :: .keep :: k) .normal σ :=
  ex_join _ h1 h2 fun Q1 Q2 hq h => R.wp_mono (fun τ => aord_mono (fun τ' => hq _ τ') u τ) r h

theorem aco_mono : ∀ (c : Code) {C : Cfg} {Q Q' : AEx → ASt → Prop} (h : ∀ e σ, Q e σ → Q' e σ) (σ : ASt), aco C c Q σ → aco C c Q' σ := by
  intro c
  induction c with
  | skip => exact fun h σ k => h _ _ k
  | label l => exact fun h σ k => h _ _ k
  | scope c ih => exact fun h σ k => ih h σ k
  | exit id => exact fun h σ k => h _ _ k
  | ret => exact fun h σ k => h _ _ k
  | region id ops draws =>
    intro C Q Q' h σ k
    cases draws with
    | false => exact aops_mono (fun τ => h _ _) _ _ k
    | true =>
      obtain ⟨B, ns, t, hb, k⟩ := k
      exact ⟨B, ns, t, hb, aord_mono (fun τ => h _ _) _ _ k⟩
  | seq x y ihx ihy =>
    intro C Q Q' h σ k
    refine ihx (fun e τ hq => ?_) σ k
    cases e with
    | normal => exact ihy h τ hq
    | exit id => exact h _ _ hq
    | ret => exact h _ _ hq
  | cond c x y ihx ihy =>
    intro C Q Q' h σ k
    unfold aco at k ⊢
    generalize σ.rd C 0 c = v at k ⊢
    cases v <;> simp only [condA] at k ⊢
    exact ⟨fun e => ihx h σ (k.1 e), fun e => ihy h σ (k.2 e)⟩
  | block id c ih =>
    intro C Q Q' h σ k
    refine ih (fun e τ hq => ?_) σ k
    cases e with
    | normal => exact h _ _ hq
    | ret => exact h _ _ hq
    | exit i =>
      simp only [AEx.inBlock] at hq ⊢
      split
      · rename_i e; rw [if_pos e] at hq; exact h _ _ hq
      · rename_i e; rw [if_neg e] at hq; exact h _ _ hq
  | loop c ih =>
    intro C Q Q' h σ k
    obtain ⟨L, n, k⟩ := k
    refine ⟨L, n, ?_⟩
    induction n generalizing σ with
    | zero => exact k.elim
    | succ n ihn =>
      refine ih (fun e τ hq => ?_) _ k
      cases e with
      | normal => exact ihn τ hq
      | exit id => exact h _ _ hq
      | ret => exact h _ _ hq
  | rangeFunc g ps assign body _ ihb =>
    intro C Q Q' h σ k
    cases assign with
    | region id ops draws =>
      cases draws with
      | false =>
        obtain ⟨ks, t, p, xs, st, h1, h2, h3⟩ := k
        refine ⟨ks, t, p, xs, st, h1, fun i x hx => ⟨(h2 i x hx).1, aops_mono (fun τ hq => ihb (fun e τ hq => ?_) _ hq) _ _ (h2 i x hx).2⟩, h _ _ h3⟩
        cases e with
        | normal => exact hq
        | exit id => exact ⟨hq.1, h _ _ hq.2⟩
        | ret => exact ⟨hq.1, h _ _ hq.2⟩
      | true => exact k.elim
    | _ => exact k.elim
  | _ => exact fun _ _ k => k.elim
/-- Two ways of a condition that come together: temporary t becomes v. -/
theorem ex_if {b : Bool} {A B : Code} (t : Nat) (v : AV) (h1 : b = true → exec C (fun e τ => e = .normal ∧ τ = ASt.keep { σ with tmps := ins t v σ.tmps } C.live) [.code A] .normal σ)
    (h2 : b = false → exec C (fun e τ => e = .normal ∧ τ = ASt.keep { σ with tmps := ins t v σ.tmps } C.live) [.code B] .normal σ)
    (h : exec C Q k .normal (ASt.keep { σ with tmps := ins t v σ.tmps } C.live)) : exec C Q (.br (.bool b) A B :: k) .normal σ := by
  refine ex_br (fun e => ?_) (fun e => ?_)
  · refine aco_mono A (fun e τ hq => ?_) σ (h1 e)
    obtain ⟨rfl, rfl⟩ := hq
    exact h
  · refine aco_mono B (fun e τ hq => ?_) σ (h2 e)
    obtain ⟨rfl, rfl⟩ := hq
    exact h
/-- .. a number that one way sets. -/
theorem ex_ifI {b : Bool} {A B : Code} (t : Nat) (K : IntKind) (x : Int) {y : Int} (hy : look σ.tmps t = some (.int K y))
    (h1 : exec C (fun e τ => e = .normal ∧ τ = ASt.keep { σ with tmps := ins t (.int K x) σ.tmps } C.live) [.code A] .normal σ)
    (h2 : exec C (fun e τ => e = .normal ∧ τ = ASt.keep { σ with tmps := ins t (.int K y) σ.tmps } C.live) [.code B] .normal σ)
    (h : exec C Q k .normal (ASt.keep { σ with tmps := ins t (.int K (bif b then x else y)) σ.tmps } C.live)) : exec C Q (.br (.bool b) A B :: k) .normal σ := by
  cases b with
  | true => exact ex_if t (.int K x) (fun _ => h1) (fun e => by cases e) h
  | false => exact ex_if t (.int K y) (fun e => by cases e) (fun _ => h2) h
/-- Whatever order comes, the state at the region's end is τ0. -/
theorem ex_drawn {all : List Oper} {ns : List Nat} {t : Ord} (τ0 : ASt) (h1 : exec C (fun e τ => e = .normal ∧ τ.keep C.live = τ0) [.ord all ns t] .normal σ) (h2 : exec C Q k .normal τ0) : exec C Q (.ord all ns t :: .keep :: k) .normal σ := by
  refine aord_mono (fun τ hq => ?_) t σ h1
  obtain ⟨_, rfl⟩ := hq
  exact h2
end
end Go.Proofs.Ytmngjlgeojbghaa.VA
end
section
namespace Go.Proofs.Ytmngjlgeojbghaa.VA

/-- What a result may be told as. -/
inductive Fin : AV → AV → Prop
  | dull {x y : AV} : Dull x y → Fin x y
  | froz {sh : Bool} {sz : Nat} {es : List AV} {y : AV} : Dull (.sl true sz es) y → Fin (.own sh sz es) y
  | mark (sh : Bool) (sz : Nat) (es : List AV) : Fin (.own sh sz es) (.own true sz es)
  | nil (sh sh' : Bool) (sz sz' : Nat) (h : sh = true → sh' = true) : sz = sz' → Fin (.own sh sz []) (.own sh' sz' [])
inductive Fins : List AV → List AV → Prop
  | nil : Fins [] []
  | cons {x y : AV} {xs ys : List AV} : Fin x y → Fins xs ys → Fins (x :: xs) (y :: ys)
inductive FinR : AV → AV → Prop
  | one {x y : AV} : (∀ vs, x ≠ .tup vs) → (∀ vs, y ≠ .tup vs) → Fin x y → FinR x y
  | tup {xs ys : List AV} : Fins xs ys → FinR (.tup xs) (.tup ys)
def ResFin : Option AV → AV → Prop
  | some r, res => FinR r res
  | none, _ => False
def BodyPost (C : Cfg) (rs : List ResultVar) (res : AV) : AEx → ASt → Prop
  | .exit _, _ => False
  | _, σ => ResFin (resOf C σ rs) res
def rkey : ResultVar → Nat
  | .tmp t => t
  | .cell t _ => t

section
variable {F : Fx} {I : Imm} {own : Nat → Option Loc} {σ : ASt} {a : Act} {w w' : World} {C : Cfg} {K : ASt → Prop}

theorem AR.dullM {M : Nat → Prop} {x y : AV} (hd : Dull x y) : ∀ {v : Value}, AR M I x v → AR M I y v := fun h => h.dull hd

/-- Results turned into what they are told as. -/
theorem fin_ok {M : Nat → Prop} (hI : Imm.ok I w) {x y : AV} {v : Value} {gs : List Nat} (hM : ∀ g, g ∈ gs → M g) (h : VRep M I w x v gs) (hf : Fin x y) :
    ∃ J gs', Imm.le I J ∧ Imm.ok J w ∧ (∀ b, b ∉ gs → ∀ o, J b o = I b o) ∧ VRep M J w y v gs' ∧ ∀ g, g ∈ gs' → g ∈ gs ∧ gs' = [g] := by
  have same : VRep M I w y v gs → ∃ J gs', Imm.le I J ∧ Imm.ok J w ∧ (∀ b, b ∉ gs → ∀ o, J b o = I b o) ∧ VRep M J w y v gs' ∧ ∀ g, g ∈ gs' → g ∈ gs ∧ gs' = [g] := by
    intro h2
    refine ⟨I, gs, Imm.leRefl I, hI, fun _ _ _ => rfl, h2, fun g hg => ⟨hg, ?_⟩⟩
    rcases vrep_cases h2 with ⟨_, _, _, _, rfl⟩ | ⟨_, _, _, g', _, _, _, rfl, _⟩ | ⟨_, _, rfl⟩
    · cases hg
    · rw [List.mem_singleton] at hg; rw [hg]
    · cases hg
  cases hf with
  | dull hd =>
    rcases vrep_cases h with ⟨sh, sz, rfl, rfl, rfl⟩ | ⟨sh, sz, es, g, cap, rfl, rfl, rfl, hlt, hr⟩ | ⟨hi, ha, rfl⟩
    · cases hd; exact same h
    · cases hd; exact same h
    · exact same (vrep_imm (ha.dullM hd))
  | froz hd =>
    rename_i sh sz es
    rcases vrep_cases h with ⟨_, _, e, rfl, rfl⟩ | ⟨_, _, _, g, cap, e, rfl, rfl, hlt, hr⟩ | ⟨hi, ha, rfl⟩
    · cases e
      exact ⟨I, [], Imm.leRefl I, hI, fun _ _ _ => rfl, vrep_imm ((AR.slnil true sz none 0).dullM hd), fun g hg => by cases hg⟩
    · cases e
      refine ⟨I.with w g (es.length * sz), [], Imm.with_le hI, Imm.with_ok hI, fun b hb o => Imm.with_ne (fun e => hb (by simp [e])) o, vrep_imm (((hr.share hI).toSl (hM g (by simp))).dullM hd), fun g hg => by cases hg⟩
    · cases hi
  | mark sh sz es =>
    rcases vrep_cases h with ⟨_, _, e, rfl, rfl⟩ | ⟨_, _, _, g, cap, e, rfl, rfl, hlt, hr⟩ | ⟨hi, ha, rfl⟩
    · cases e
      exact same (vrep_nil _ _)
    · cases e
      exact ⟨I.with w g (es.length * sz), [g], Imm.with_le hI, Imm.with_ok hI, fun b hb o => Imm.with_ne (fun e => hb (by simp [e])) o, vrep_row hlt (hr.share hI), fun g' hg => by
        rw [List.mem_singleton] at hg; subst hg; exact ⟨by simp, rfl⟩⟩
    · cases hi
  | nil sh sh' sz sz' hs hz =>
    subst hz
    rcases vrep_cases h with ⟨_, _, e, rfl, rfl⟩ | ⟨_, _, _, g, cap, e, rfl, rfl, hlt, hr⟩ | ⟨hi, ha, rfl⟩
    · exact same (vrep_nil _ _)
    · cases e
      refine same (vrep_row hlt ⟨hr.le, hr.capm, hr.cells, hr.elems, fun _ o v ho _ => by simp at ho, fun o _ => hr.immn o (fun _ => by simp), hr.frz⟩)
    · cases hi

theorem fins_ok {M : Nat → Prop} : ∀ (xs ys : List AV) (vs : List Value) (gs : List Nat) (I : Imm), Imm.ok I w → (∀ g, g ∈ gs → M g) → gs.Nodup → VReps M I w xs vs gs → Fins xs ys →
    ∃ J gs', Imm.le I J ∧ Imm.ok J w ∧ (∀ b, b ∉ gs → ∀ o, J b o = I b o) ∧ VReps M J w ys vs gs' ∧ gs'.Nodup ∧ ∀ g, g ∈ gs' → g ∈ gs
  | [], _, [], gs, I, hI, hM, hn, h, hf => by
    cases hf
    exact ⟨I, gs, Imm.leRefl I, hI, fun _ _ _ => rfl, h, hn, fun _ h => h⟩
  | x :: xs, _, v :: vs, gs, I, hI, hM, hn, h, hf => by
    cases hf with
    | cons f1 f2 =>
      rename_i y ys
      obtain ⟨g1, g2, rfl, h1, h2⟩ := h
      have hn' := List.nodup_append.1 hn
      obtain ⟨J1, g1', a1, a2, a3, a4, a5⟩ := fin_ok hI (fun g hg => hM g (List.mem_append_left _ hg)) h1 f1
      have hdis : ∀ g, g ∈ g2 → g ∉ g1 := fun g hg hg' => hn'.2.2 g hg' g hg rfl
      have h2' := VReps.keep (fun _ h => h) a1 xs vs g2 h2 fun g hg => a3 g (hdis g hg)
      obtain ⟨J2, g2', b1, b2, b3, b4, b5, b6⟩ := fins_ok xs ys vs g2 J1 a2 (fun g hg => hM g (List.mem_append_right _ hg)) hn'.2.1 h2' f2
      have hdis1 : ∀ g, g ∈ g1' → g ∉ g2 := fun g hg hg' => hdis g hg' (a5 g hg).1
      refine ⟨J2, g1' ++ g2', a1.trans b1, b2, fun b hb o => ?_, ⟨g1', g2', rfl, a4.keep (fun _ h => h) b1 fun g hg => b3 g (hdis1 g hg), b4⟩, ?_, fun g hg => ?_⟩
      · rw [b3 b (fun e => hb (List.mem_append_right _ e)) o, a3 b (fun e => hb (List.mem_append_left _ e)) o]
      · rw [List.nodup_append]
        refine ⟨?_, b5, fun p hp q hq e => hdis1 p hp (by rw [e]; exact b6 q hq)⟩
        cases g1' with
        | nil => exact List.nodup_nil
        | cons g r => rw [(a5 g (by simp)).2]; simp
      · rcases List.mem_append.1 hg with e | e
        · exact List.mem_append_left _ (a5 g e).1
        · exact List.mem_append_right _ (b6 g e)
  | [], _, _ :: _, gs, I, hI, hM, hn, h, hf => h.elim
  | _ :: _, _, [], gs, I, hI, hM, hn, h, hf => h.elim

/-- The cells of a variable are marked one by one; who stands in no cell keeps his own. -/
theorem markCellsMore (h : RI F I own σ a w) {k : Nat} {cs : List AV} (hk : look σ.vars k = some cs) : ∀ n, n ≤ cs.length →
    ∃ J, Imm.le I J ∧ RI F J own { σ with vars := ins k (markFrom cs 0 n) σ.vars } a w ∧ ∀ b, (∀ k j, own b ≠ some (.cell k j)) → ∀ o, J b o = I b o
  | 0, _ => by
    refine ⟨I, Imm.leRefl I, h.weaken (fun l x hx => ⟨x, ?_, .inl rfl⟩) (fun k' cs' hk' => ?_), fun _ _ _ => rfl⟩
    · cases l with
      | cell k' j =>
        simp only [ASt.at, look_ins] at hx ⊢
        by_cases e : k' = k
        · subst e
          simp only [if_true, cellAt, markFrom_get cs 0 0 j (by omega), hk] at hx ⊢
          rw [if_neg (by omega)] at hx; exact hx
        · simp only [e, if_false] at hx; exact hx
      | _ => exact hx
    · simp only [look_ins] at hk'
      by_cases e : k' = k
      · subst e
        simp only [if_true, Option.some.injEq] at hk'
        subst hk'
        exact ⟨cs, hk, by simp [markFrom]⟩
      · simp only [e, if_false] at hk'; exact ⟨cs', hk', rfl⟩
  | n + 1, hn => by
    obtain ⟨J, j1, j2, j3⟩ := markCellsMore h hk n (by omega)
    have hlen : ∀ n, n ≤ cs.length → (markFrom cs 0 n).length = cs.length := fun n hn => by simp [markFrom]; omega
    have hkn : look (ASt.vars { σ with vars := ins k (markFrom cs 0 n) σ.vars }) k = some (markFrom cs 0 n) := by simp [look_ins]
    have hcj : (markFrom cs 0 n)[n]? = cs[n]? := by rw [markFrom_get cs 0 n _ (by omega), if_neg (by omega)]
    have same : ∀ {J : Imm} {τ : ASt}, τ.st = σ.st → RI F J own τ a w → (∀ l x, ASt.at { σ with vars := ins k (markFrom cs 0 (n + 1)) σ.vars } l = some x → τ.at l = some x) →
        (∀ k' cs', look (ins k (markFrom cs 0 (n + 1)) σ.vars) k' = some cs' → ∃ cs0, look τ.vars k' = some cs0 ∧ cs0.length = cs'.length) →
        RI F J own { σ with vars := ins k (markFrom cs 0 (n + 1)) σ.vars } a w := fun hst hJ h1 h2 => hJ.weaken (fun l x hx => ⟨x, h1 l x hx, .inl rfl⟩) h2 (by rw [hst]; exact List.Sublist.refl _)
    have hlt : n < cs.length := by omega
    have hget := List.getElem?_eq_getElem hlt
    by_cases ho : ∃ sh sz es, cs[n]? = some (.own sh sz es)
    · obtain ⟨sh, sz, es, ho⟩ := ho
      have hl : ASt.at { σ with vars := ins k (markFrom cs 0 n) σ.vars } (.cell k n) = some (.own sh sz es) := by
        simp only [ASt.at, hkn, cellAt, hcj]; exact ho
      obtain ⟨J2, v, _, k2, k3, _, k5⟩ := j2.markMore rfl hl
      have hturn : ∀ l, (ASt.turn { σ with vars := ins k (markFrom cs 0 n) σ.vars } (.cell k n) (.own true sz es)).at l = if l = .cell k n then some (.own true sz es) else ASt.at { σ with vars := ins k (markFrom cs 0 n) σ.vars } l :=
        at_turn rfl hl
      refine ⟨J2, j1.trans k2, same (by exact turn_st _ _) k3 (fun l x hx => ?_) (fun k' cs' hk' => ?_), fun b hb o => by rw [k5 b (hb k n) o, j3 b hb o]⟩
      · rw [hturn l]
        cases l with
        | cell k' j =>
          simp only [ASt.at, look_ins] at hx ⊢
          by_cases e : k' = k
          · subst e
            simp only [if_true, cellAt, markFrom_get cs 0 (n + 1) j (by omega), markFrom_get cs 0 n j (by omega)] at hx ⊢
            by_cases e2 : j = n
            · subst e2
              rw [if_pos (by omega), ho] at hx
              rw [if_pos rfl]
              exact hx
            · rw [if_neg (fun e3 => e2 (by cases e3; rfl))]
              by_cases e3 : 0 ≤ j ∧ j < 0 + n
              · rw [if_pos e3]; rw [if_pos (by omega)] at hx; exact hx
              · rw [if_neg e3]; rw [if_neg (by omega)] at hx; exact hx
          · simp only [e, if_false] at hx ⊢
            rw [if_neg (fun e3 => e (by cases e3; rfl))]; exact hx
        | tmp t => rw [if_neg (fun e => by cases e)]; exact hx
        | comp t j => rw [if_neg (fun e => by cases e)]; exact hx
        | box k => cases hx
      · simp only [ASt.turn, ASt.setCell, hkn, ASt.setCellO, look_ins] at hk' ⊢
        by_cases e : k' = k
        · subst e
          simp only [if_true, Option.some.injEq] at hk' ⊢
          subst hk'
          exact ⟨_, rfl, by rw [List.length_set, hlen n (by omega), hlen (n + 1) hn]⟩
        · simp only [e, if_false] at hk' ⊢; exact ⟨cs', hk', rfl⟩
    · have hmk : ∀ x, cs[n]? = some x → x.mark = x := by
        intro x hx
        cases x <;> first | rfl | exact absurd ⟨_, _, _, hx⟩ ho
      refine ⟨J, j1, same (by rfl) j2 (fun l x hx => ?_) (fun k' cs' hk' => ?_), j3⟩
      · cases l with
        | cell k' j =>
          simp only [ASt.at, look_ins] at hx ⊢
          by_cases e : k' = k
          · subst e
            simp only [if_true, cellAt, markFrom_get cs 0 (n + 1) j (by omega), markFrom_get cs 0 n j (by omega)] at hx ⊢
            by_cases e2 : j = n
            · subst e2
              rw [if_pos (by omega), hget] at hx
              rw [if_neg (by omega), hget]
              simp only [Option.map_some, hmk _ hget] at hx
              exact hx
            · by_cases e3 : 0 ≤ j ∧ j < 0 + n
              · rw [if_pos e3]; rw [if_pos (by omega)] at hx; exact hx
              · rw [if_neg e3]; rw [if_neg (by omega)] at hx; exact hx
          · simp only [e, if_false] at hx ⊢; exact hx
        | _ => exact hx
      · simp only [look_ins] at hk' ⊢
        by_cases e : k' = k
        · subst e
          simp only [if_true, Option.some.injEq] at hk' ⊢
          subst hk'
          exact ⟨_, rfl, by rw [hlen n (by omega), hlen (n + 1) hn]⟩
        · simp only [e, if_false] at hk' ⊢; exact ⟨cs', hk', rfl⟩

theorem mark_frz (x : AV) : x.mark.frz = x.frz := by cases x <;> rfl
theorem mark_frz_map (cs : List AV) : (cs.map AV.mark).map AV.frz = cs.map AV.frz := by
  rw [List.map_map]; congr 1; funext x; exact mark_frz x
theorem markFrom_all (cs : List AV) : markFrom cs 0 cs.length = cs.map AV.mark := by simp [markFrom]
theorem resCells_mark (T : TypeId) (cs : List AV) : resCells C T (some (cs.map AV.mark)) = resCells C T (some cs) := by
  unfold resCells
  have e1 : (cs.map AV.mark).all (fun c => c.frz.isImm) = cs.all (fun c => c.frz.isImm) := by
    rw [List.all_map]; congr 1; funext x; simp [mark_frz]
  have e2 : (cs.map AV.mark)[0]?.map AV.frz = cs[0]?.map AV.frz := by cases cs <;> simp [mark_frz]
  simp only [List.length_map, e1, mark_frz_map, e2]
theorem resOne_mark {k : Nat} {cs : List AV} (hk : look σ.vars k = some cs) (r : ResultVar) : resOne C { σ with vars := ins k (cs.map AV.mark) σ.vars } r = resOne C σ r := by
  cases r with
  | tmp t => rfl
  | cell t T =>
    simp only [resOne]
    cases look σ.tmps t with
    | none => rfl
    | some y =>
      cases y <;> try rfl
      rename_i k' off
      cases off with
      | succ n => rfl
      | zero =>
        simp only [resVar, look_ins]
        by_cases e : k' = k
        · subst e
          simp only [if_true]
          rw [resCells_mark, hk]
        · simp only [e, if_false]
theorem resAll_mark {k : Nat} {cs : List AV} (hk : look σ.vars k = some cs) : ∀ (rs : List ResultVar), resAll C { σ with vars := ins k (cs.map AV.mark) σ.vars } rs = resAll C σ rs
  | [] => rfl
  | r :: rs => by simp only [resAll, resOne_mark hk r, resAll_mark hk rs]

def loadRes (tmps : Array Value) : ResultVar → Sem Value
  | .tmp t => pure (tmps.getD t undef)
  | .cell a t => do Go.loadVar t (← asAddr (tmps.getD a undef))

theorem resCells_ok (hok : CfgOk C) (h : RI F I own σ a w) {T : TypeId} {k : Nat} {cs : List AV} (hk : look σ.vars k = some cs) (hkn : (C.ti T).kind.known = true) (hm : ∀ x, x ∈ cs → x.mark = x) {y : AV} (hy : resCells C T (some cs) = some y) {b : Nat}
    (hb : a.tmps[k]? = some (.pointer (some ⟨b, 0, none⟩))) : ∃ v, (Go.loadVar T ⟨b, 0, none⟩).run C.P w = .ok v w ∧ AR F.mo I y v := by
  simp only [resCells] at hy
  split at hy
  · rename_i hc
    simp only [Bool.and_eq_true, decide_eq_true_eq, List.all_eq_true] at hc
    have cell : ∀ j x, cs[j]? = some x → ∃ v, w.cell? ⟨b, j, none⟩ = some v ∧ AR F.mo I x.frz v := by
      intro j x hx
      obtain ⟨v, hv, hr⟩ := h.slots (.cell k j) x (by simp only [ASt.at, hk, cellAt]; exact hx)
      simp only [conc, hb, cellOf] at hv
      exact ⟨v, hv, frz_ar h hr (hm x (List.mem_of_getElem? hx)) (hc.2 x (List.mem_of_getElem? hx))⟩
    have hone : ∀ j, j < cs.length → ∃ v, w.cell? ⟨b, j, none⟩ = some v ∧ v.oneCell' = true := by
      obtain ⟨b', e1, e2, e3, e4⟩ := h.boxes k cs hk
      rw [hb] at e1
      cases e1
      intro j hj
      obtain ⟨v, v1, v2, _⟩ := e4 j hj
      exact ⟨v, v1, v2⟩
    have hfit := hok.fit T hkn
    cases hag : (C.ti T).kind.isAgg with
    | true =>
      rw [if_pos hag] at hy
      cases hy
      have hisA := fit_isAgg hfit w
      rw [hag] at hisA
      have hget : ∀ (j : Nat) v, ((List.range cs.length).map fun j => (w.cell? ⟨b, j, none⟩).getD undef)[j]? = some v → w.cell? ((⟨b, 0, none⟩ : Addr).add j) = some v := by
        intro j v hj
        have hjl : j < cs.length := by
          have := (List.getElem?_eq_some_iff.1 hj).1
          simpa using this
        obtain ⟨u, hu, _⟩ := cell j _ (List.getElem?_eq_getElem hjl)
        rw [List.getElem?_map, List.getElem?_range hjl] at hj
        simp only [Option.map_some, hu, Option.getD_some, Option.some.injEq] at hj
        subst hj
        rw [Addr.add_lit, Nat.zero_add]; exact hu
      refine ⟨_, loadVar_agg hisA (fit_sizeOf hfit w) ((List.range cs.length).map fun j => (w.cell? ⟨b, j, none⟩).getD undef) (by simp [hc.1]) hget, ?_⟩
      refine .agg _ _ (by simp) (fun j v hj => ?_) fun j c v hcj hj => ?_
      · have hj' : ((List.range cs.length).map fun j => (w.cell? ⟨b, j, none⟩).getD undef)[j]? = some v := by simpa using hj
        have hjl : j < cs.length := by
          have := (List.getElem?_eq_some_iff.1 hj').1
          simpa using this
        have h1 := hget j v hj'
        rw [Addr.add_lit, Nat.zero_add] at h1
        obtain ⟨u, hu, h2⟩ := hone j hjl
        rw [h1] at hu
        cases hu
        exact h2
      · have hj' : ((List.range cs.length).map fun j => (w.cell? ⟨b, j, none⟩).getD undef)[j]? = some v := by simpa using hj
        have h1 := hget j v hj'
        rw [Addr.add_lit, Nat.zero_add] at h1
        rw [List.getElem?_map] at hcj
        cases hx : cs[j]? with
        | none => rw [hx] at hcj; cases hcj
        | some x =>
          rw [hx] at hcj
          cases hcj
          obtain ⟨u, hu, h2⟩ := cell j x hx
          rw [h1] at hu
          cases hu
          exact h2
    | false =>
      rw [if_neg (by rw [hag]; simp)] at hy
      cases hx : cs[0]? with
      | none => rw [hx] at hy; cases hy
      | some x =>
        rw [hx] at hy
        cases hy
        obtain ⟨v, hv, ha⟩ := cell 0 x hx
        have hisA := fit_isAgg hfit w
        rw [hag] at hisA
        exact ⟨v, loadVar_one hisA hv, ha⟩
  · cases hy

theorem resAll_ok (hC : F.C = C) (hok : CfgOk C) : ∀ (rs : List ResultVar) (σ : ASt) (I : Imm) (vs : List AV), RI F I own σ a w → (rs.map rkey).Nodup → (∀ t T, ResultVar.cell t T ∈ rs → (C.ti T).kind.known = true) → resAll C σ rs = some vs →
    ∃ J us gs σ', Imm.le I J ∧ RI F J own σ' a w ∧ (rs.mapM (loadRes a.tmps)).run C.P w = .ok us w ∧ us.length = rs.length ∧ VReps F.mo J w vs us gs ∧ gs.Nodup ∧ (∀ g, g ∈ gs → F.mine g ∧ ∃ t, ResultVar.tmp t ∈ rs ∧ own g = some (.tmp t)) ∧
      (∀ b, (∀ k j, own b ≠ some (.cell k j)) → ∀ o, J b o = I b o) ∧ σ'.st = σ.st
  | [], σ, I, vs, h, hn, hkn, he => by
    cases he
    exact ⟨I, [], [], σ, Imm.leRefl I, h, rfl, rfl, rfl, List.nodup_nil, (fun g hg => by cases hg), (fun _ _ _ => rfl), rfl⟩
  | .tmp t :: rs, σ, I, vs, h, hn, hkn, he => by
    rw [resAll] at he
    cases h1 : resOne C σ (.tmp t) with
    | none => rw [h1] at he; cases he
    | some x =>
      cases h2 : resAll C σ rs with
      | none => rw [h1, h2] at he; cases he
      | some xs =>
        rw [h1, h2] at he
        cases he
        rw [List.map_cons, List.nodup_cons] at hn
        obtain ⟨J, us, gs, σ', j1, j2, j3, j3', j4, j5, j6, j7, j8⟩ := resAll_ok hC hok rs σ I xs h hn.2 (fun t T ht => hkn t T (List.mem_cons_of_mem _ ht)) h2
        simp only [resOne] at h1
        cases hl : look σ.tmps t with
        | none => rw [hl] at h1; cases h1
        | some y =>
          rw [hl] at h1
          obtain ⟨v, hv, hr⟩ := h.slots (.tmp t) y hl
          have hload : (loadRes a.tmps (.tmp t)).run C.P w = .ok v w := by
            simp only [conc] at hv
            simp [loadRes, Array.getD_eq_getD_getElem?, hv]
          have hrun : ((ResultVar.tmp t :: rs).mapM (loadRes a.tmps)).run C.P w = .ok (v :: us) w := by
            simp [List.mapM_cons, hload, j3]
          have fin : ∀ g1, VRep F.mo I w x v g1 → (∀ g, g ∈ g1 → own g = some (.tmp t) ∧ g1 = [g]) → ∃ J us gs σ', Imm.le I J ∧ RI F J own σ' a w ∧ ((ResultVar.tmp t :: rs).mapM (loadRes a.tmps)).run C.P w = .ok us w ∧ us.length = (ResultVar.tmp t :: rs).length ∧ VReps F.mo J w (x :: xs) us gs ∧ gs.Nodup ∧ (∀ g, g ∈ gs → F.mine g ∧ ∃ t', ResultVar.tmp t' ∈ ResultVar.tmp t :: rs ∧ own g = some (.tmp t')) ∧
              (∀ b, (∀ k j, own b ≠ some (.cell k j)) → ∀ o, J b o = I b o) ∧ σ'.st = σ.st := by
            intro g1 hx hg1
            refine ⟨J, v :: us, g1 ++ gs, σ', j1, j2, hrun, by simp [j3'], ⟨g1, gs, rfl, hx.keep (fun _ h => h) j1 (fun g hg => j7 g fun k j e => ?_), j4⟩, ?_, fun g hg => ?_, j7, j8⟩
            · rw [(hg1 g hg).1] at e; cases e
            · rw [List.nodup_append]
              refine ⟨?_, j5, fun p hp q hq e => ?_⟩
              · cases g1 with
                | nil => exact List.nodup_nil
                | cons g r => rw [(hg1 g (by simp)).2]; simp
              · subst e
                obtain ⟨_, t', ht', e'⟩ := j6 p hq
                rw [(hg1 p hp).1] at e'
                cases e'
                exact hn.1 (List.mem_map.2 ⟨.tmp t, ht', rfl⟩)
            · rcases List.mem_append.1 hg with e | e
              · exact ⟨(h.mine g _ (hg1 g e).1).1, t, by simp, (hg1 g e).1⟩
              · obtain ⟨e1, t', e2, e3⟩ := j6 g e
                exact ⟨e1, t', List.mem_cons_of_mem _ e2, e3⟩
          by_cases ho : ∃ sh sz es, y = .own sh sz es
          · obtain ⟨sh, sz, es, rfl⟩ := ho
            simp only [resTmp, Option.some.injEq] at h1
            subst h1
            rcases hr with ⟨rfl, rfl⟩ | ⟨g, cap, rfl, hg, hrow⟩
            · exact fin [] (vrep_nil _ _) fun g hg => by cases hg
            · exact fin [g] (vrep_row (h.mine g _ hg).2 hrow) fun g' hg' => by
                rw [List.mem_singleton] at hg'; subst hg'; exact ⟨hg, rfl⟩
          · have h1' : (if y.isImm = true then some y else none) = some x := by
              cases y <;> first | exact h1 | exact (ho ⟨_, _, _, rfl⟩).elim
            by_cases hi : y.isImm = true
            · rw [if_pos hi] at h1'
              cases h1'
              exact fin [] (vrep_imm ((srep_imm hi).1 hr)) fun g hg => by cases hg
            · rw [if_neg hi] at h1'; cases h1'
  | .cell t T :: rs, σ, I, vs, h, hn, hkn, he => by
    rw [resAll] at he
    cases h1 : resOne C σ (.cell t T) with
    | none => rw [h1] at he; cases he
    | some x =>
      cases h2 : resAll C σ rs with
      | none => rw [h1, h2] at he; cases he
      | some xs =>
        rw [h1, h2] at he
        cases he
        rw [List.map_cons, List.nodup_cons] at hn
        simp only [resOne] at h1
        cases hl : look σ.tmps t with
        | none => rw [hl] at h1; cases h1
        | some y =>
          rw [hl] at h1
          cases y <;> simp only [resVar] at h1 <;> try cases h1
          rename_i k off
          cases off with
          | succ n => cases h1
          | zero =>
            simp only at h1
            cases hk : look σ.vars k with
            | none => rw [hk] at h1; cases h1
            | some cs =>
              rw [hk] at h1
              obtain ⟨J1, k1, k2, k3⟩ := markCellsMore h hk cs.length (Nat.le_refl _)
              rw [markFrom_all] at k2
              have hk2 : look (ASt.vars { σ with vars := ins k (cs.map AV.mark) σ.vars }) k = some (cs.map AV.mark) := by simp [look_ins]
              obtain ⟨b, hb, _⟩ := h.boxes k cs hk
              obtain ⟨v, hv, hr⟩ := h.slots (.tmp t) _ hl
              obtain ⟨b', hb', hve⟩ := hr cs hk
              rw [hb] at hb'
              cases hb'
              have hfr : resCells C T (some (cs.map AV.mark)) = some x := by rw [resCells_mark]; exact h1
              obtain ⟨u, hu, ha⟩ := resCells_ok hok k2 hk2 (hkn t T (by simp)) (fun x hx => by
                obtain ⟨z, _, rfl⟩ := List.mem_map.1 hx
                cases z <;> rfl) hfr hb
              obtain ⟨J, us, gs, σ', j1, j2, j3, j3', j4, j5, j6, j7, j8⟩ := resAll_ok hC hok rs _ J1 xs k2 hn.2 (fun t T ht => hkn t T (List.mem_cons_of_mem _ ht)) (by rw [resAll_mark hk]; exact h2)
              have hload : (loadRes a.tmps (.cell t T)).run C.P w = .ok u w := by
                simp only [conc] at hv
                simp [loadRes, Array.getD_eq_getD_getElem?, hv, hve, asAddr, hu]
              refine ⟨J, u :: us, gs, σ', k1.trans j1, j2, by simp [List.mapM_cons, hload, j3], by simp [j3'], ⟨[], gs, rfl, vrep_imm (ha.mono (fun _ h => h) j1), j4⟩, j5, fun g hg => ?_, (fun b hb o => by rw [j7 b hb o, k3 b hb o]), j8⟩
              obtain ⟨e1, t', e2, e3⟩ := j6 g hg
              exact ⟨e1, t', List.mem_cons_of_mem _ e2, e3⟩

/-- The state in which a call begins. -/
theorem look_args : ∀ (ars : List AV) (i j : Nat), look (argsAt i ars) j = if i ≤ j then ars[j - i]? else none
  | [], i, j => by simp [argsAt, look]
  | x :: ars, i, j => by
    rw [argsAt, look, look_args ars (i + 1) j]
    by_cases e : j = i
    · subst e; simp
    · rw [if_neg e]
      by_cases e2 : i ≤ j
      · rw [if_pos (by omega), if_pos e2, show j - i = (j - (i + 1)) + 1 by omega, List.getElem?_cons_succ]
      · rw [if_neg (by omega), if_neg e2]

theorem VReps.plain {M N : Nat → Prop} : ∀ (ars : List AV) (vs : List Value) (gs : List Nat), VReps M I w ars vs gs → (∀ x, x ∈ ars → Plain x) → VReps N I w ars vs gs
  | [], [], gs, h, _ => h
  | y :: ars, u :: vs, gs, h, hp => by
    obtain ⟨g1, g2, rfl, h1, h2⟩ := h
    refine ⟨g1, g2, rfl, ?_, VReps.plain ars vs g2 h2 fun x hx => hp x (List.mem_cons_of_mem _ hx)⟩
    have hy := hp y (by simp)
    rcases vrep_cases h1 with ⟨sh, sz, rfl, rfl, rfl⟩ | ⟨sh, sz, es, g, cap, rfl, rfl, rfl, hlt, hr⟩ | ⟨hi, ha, rfl⟩
    · exact vrep_nil _ _
    · refine vrep_row hlt ⟨hr.le, hr.capm, hr.cells, fun i e he => ?_, hr.immc, hr.immn, hr.frz⟩
      obtain ⟨v, v1, v2, v3⟩ := hr.elems i e he
      cases hy with
      | own _ _ _ hpe => exact ⟨v, v1.plain (hpe e (List.mem_of_getElem? he)), v2, v3⟩
    · exact vrep_imm (ha.plain hy)
  | [], _ :: _, gs, h, _ => h.elim
  | _ :: _, [], gs, h, _ => h.elim

theorem start_ok {M : Nat → Prop} (hI : Imm.ok I w) {args : List AV} {vs : List Value} {gs : List Nat} (h : VReps (fun b => M b ∨ w.heap.size ≤ b ∨ b ∈ gs) I w args vs gs) (hn : gs.Nodup) (hsz : args.length ≤ C.n) (hfix : C.fix = []) :
    RI ⟨C, w, I, (· ∈ gs), fun _ => false, fun _ => False, [], #[], fun b => M b ∨ w.heap.size ≤ b ∨ b ∈ gs⟩ I (giveTup (fun _ => none) Loc.tmp 0 args vs) (startSt args) { tmps := vs.toArray ++ Array.replicate (C.n - vs.toArray.size) undef, defers := [] } w := by
  obtain ⟨hlen, hlt⟩ := vreps_len args vs gs h
  have at_args : ∀ l x, (startSt args).at l = some x → ∃ i, l = .tmp i ∧ args[i]? = some x := by
    intro l x hx
    have key : ∀ t, look (startSt args).tmps t = args[t]? := fun t => by
      show look (argsAt 0 args) t = _
      rw [look_args]; simp
    cases l with
    | tmp t =>
      simp only [ASt.at, key] at hx
      exact ⟨t, rfl, hx⟩
    | cell k j => cases hx
    | comp t j =>
      simp only [ASt.at, key] at hx
      cases ha : args[t]? with
      | none => rw [ha] at hx; cases hx
      | some y =>
        rw [ha] at hx
        cases y <;> simp only [AV.compAt] at hx <;> try cases hx
        obtain ⟨v, _, hc⟩ := giveTup_at (own := fun _ => none) Loc.tmp args vs gs 0 h hn t _ ha
        rcases hc with ⟨_, _, e, _⟩ | ⟨_, _, _, _, _, e, _⟩ | ⟨e, _⟩
        · cases e
        · cases e
        · cases e
    | box k => cases hx
  exact {
    st := .nil
    imm := hI
    base := Imm.leRefl I
    inew := fun b o v hb => .inl hb
    fr := fr_refl _ _
    mko := fun _ h => .inr h
    mine := fun b l hb => by
      rcases giveTup_some Loc.tmp h hb with e | e
      · cases e
      · exact ⟨.inr e, hlt b e⟩
    defs := ⟨rfl, fun t e => by rw [hfix] at e; cases e⟩
    size := by
      show (vs.toArray ++ Array.replicate (C.n - vs.toArray.size) undef).size = C.n
      simp; omega
    slots := by
      intro l x hx
      obtain ⟨i, rfl, hi⟩ := at_args l x hx
      obtain ⟨v, hv, hc⟩ := giveTup_at (own := fun _ => none) Loc.tmp args vs gs 0 h hn i x hi
      have hil := (List.getElem?_eq_some_iff.1 hv).1
      refine ⟨v, ?_, ?_⟩
      · simp only [conc]
        rw [Array.getElem?_append_left (by simpa using hil)]
        simpa using hv
      · rcases hc with ⟨sh, sz, rfl, rfl⟩ | ⟨sh, sz, es, g, cap, rfl, rfl, hg, hr, _⟩ | ⟨hi, ha⟩
        · exact .inl ⟨rfl, rfl⟩
        · exact .inr ⟨g, cap, rfl, by rw [hg, Nat.zero_add], hr⟩
        · exact (srep_imm hi).2 ha
    boxes := fun k cs hk => by cases hk
    quiet := fun l x hx hl => by
      obtain ⟨i, rfl, _⟩ := at_args l x hx
      exact (hl i rfl).elim
    lk := ⟨fun b hb => hb.elim, fun k e => by cases e⟩ }

theorem results_eq (fn : Func) (tmps : Array Value) : results fn tmps = (do let vs ← fn.results.mapM (loadRes tmps); pure (if h : vs.size = 1 then vs[0] else .tuple vs)) := by
  unfold results
  congr 1
theorem run_results {P : Program} {fn : Func} {tmps : Array Value} {us : List Value} (h : (fn.results.toList.mapM (loadRes tmps)).run P w = .ok us w) :
    (results fn tmps).run P w = .ok (if hs : us.toArray.size = 1 then us.toArray[0] else .tuple us.toArray) w := by
  rw [results_eq, Array.mapM_eq_mapM_toList]
  simp [h]

/-- The marks of loops over functions, taken over one by one. -/
theorem leaves_marks {P : Program} {fn : Func} {tmps : Array Value} {R : Ending → World → Prop} : ∀ (ms : List Nat) (w : World), ms.Nodup → (∀ D, D ∈ ms → w.heap[D]? = some (.deferred (some []))) →
    (∀ w2 : World, (∀ p, w2.cell? p = w.cell? p ∧ w2.frozen? p = w.frozen? p) → w2.heap.size = w.heap.size → w2.os = w.os → w2.tape = w.tape → w2.output = w.output → (∀ k, k ∉ ms → w2.heap[k]? = w.heap[k]?) → ∃ v, (results fn tmps).run P w2 = .ok v w2 ∧ R (.returned v) w2) →
    LeavesInM Fence.wide 0 P fn tmps R (ms.map mkD) .returning w
  | [], w, _, _, h => h w (fun _ => ⟨rfl, rfl⟩) rfl rfl rfl rfl (fun _ _ => rfl)
  | D :: ms, w, hn, hD, h => by
    have h0 := hD D (by simp)
    obtain ⟨n1, n2⟩ := List.nodup_cons.1 hn
    have hc := cell?_put (w := w) (o' := .deferred none) h0 (fun _ _ _ e => by cases e) (fun _ _ _ e => by cases e)
    show LeavesInM Fence.wide 0 P fn tmps R (mkD D :: ms.map mkD) .returning w
    unfold LeavesInM
    refine ⟨(fun e => by cases e), .inl ⟨D, w.putObj D (.deferred none), rfl, run_takeDeferred h0, leaves_marks ms _ n2 (fun D' h' => ?_) fun w2 e1 e2 e3 e4 e5 e6 => ?_⟩⟩
    · rw [World.putObj_heap_other (fun e => n1 (by rw [← e]; exact h'))]
      exact hD D' (List.mem_cons_of_mem _ h')
    · refine h w2 (fun p => ⟨(e1 p).1.trans (hc p).1, (e1 p).2.trans (hc p).2⟩) (by rw [e2, World.putObj_size]) e3 e4 e5 fun k hk => ?_
      simp only [List.mem_cons, not_or] at hk
      rw [e6 k hk.2, World.putObj_heap_other hk.1]
/-- The state at the end, seen from the begin. -/
theorem RI.home {F F2 : Fx} {J : Imm} {own : Nat → Option Loc} {τ : ASt} {a : Act} {w w2 : World} (hmk : ∀ b, F.mine b → F.mo b) (hE : Ext F F2) (hop : F.open) (hfix : F.C.fix = []) (hds : F.ds = []) (h : RI F2 J own τ a w) (hc : ∀ p, w2.cell? p = w.cell? p ∧ w2.frozen? p = w.frozen? p) (hsz : w2.heap.size = w.heap.size)
    (hos : w2.os = w.os) (ht : w2.tape = w.tape) (ho : w2.output = w.output) (hk : ∀ k, k < F.w0.heap.size → w2.heap[k]? = w.heap[k]?) : RI F J own τ { tmps := a.tmps, defers := [] } w2 := by
  have hm2 : ∀ b, own b ≠ none → F2.mine b := fun b hb => by
    cases e : own b with
    | none => exact (hb e).elim
    | some loc => exact (h.mine b loc e).1
  have h1 := h.turn (F2 := ⟨F.C, w2, J, fun b => own b ≠ none, fun _ => false, fun _ => False, [], F.a0, F.mo⟩) (w2 := w2) (a2 := { tmps := a.tmps, defers := [] }) (by show F.C.n = F2.C.n; rw [hE.cfg]) rfl rfl ⟨fun _ => rfl, fun _ h => h⟩ (fun b loc hb => by show own b ≠ none; rw [hb]; exact fun e => by cases e) (fun _ _ _ _ hr => hr.any fun b hb => by rw [← hE.mo]; exact hb) (fun b hb => hmk b (by
      rcases hb with q | q
      · have q : w2.heap.size ≤ b := q
        have := hE.fr.size
        have := h.fr.size
        exact .inl (by omega)
      · exact hE.mine b (hm2 b q))) rfl
    ⟨rfl, fun t e => by rw [show Cfg.fix _ = F.C.fix from rfl, hfix] at e; cases e⟩ (fun p => (hc p).1) (fun p => (hc p).2) (by omega)
  have hs1 : F.w0.heap.size ≤ F2.w0.heap.size := hE.fr.size
  have hs2 : F2.w0.heap.size ≤ w.heap.size := h.fr.size
  have fr1 : Fr F.w0 w F.S := fr_two hE.fr h.fr fun b hb hn e => by
    rcases hE.mine b (.inr e) with q | q
    · omega
    · exact hn q
  refine RI.back (F := F) (F' := ⟨F.C, w2, J, fun b => own b ≠ none, fun _ => false, fun _ => False, [], F.a0, F.mo⟩) ⟨rfl, fun b hb => ?_, hmk, rfl, hE.le.trans h.base, fun b o v e => ?_, fr_trans fr1 hos ht ho (by show _ ≤ w2.heap.size; omega) (fun k hk2 _ => hk k hk2) (fun k o u hu => .inl ⟨⟨u, by rw [← (hc _).1]; exact hu⟩, (hc _).2⟩), hds.symm, rfl⟩ hop h1
  · rcases hb with q | q
    · have q : w2.heap.size ≤ b := q
      exact .inl (by omega)
    · exact hE.mine b (hm2 b q)
  · rcases h.inew b o v e with q | q
    · exact hE.inew b o v q
    · exact .inr (hE.mine b q)

/-- What stands at a call's end; Φ: what is put by then. -/
def Ended {ι : Type} (C : Cfg) (M : Nat → Prop) (res : ι → AV) (Φ : ι → List Stash → Prop) (I : Imm) (w : World) (gs : List Nat) (e : Ending) (w' : World) : Prop :=
  ∃ i v I' gs' own' ss, e = .returned v ∧ Imm.le I I' ∧ Imm.ok I' w' ∧ Fr w w' (· ∈ gs) ∧
    (∀ b o u, I' b o = some u → I b o = some u ∨ w.heap.size ≤ b ∨ b ∈ gs) ∧ RRep (fun b => M b ∨ w.heap.size ≤ b ∨ b ∈ gs) I' w' (res i) v gs' ∧ gs'.Nodup ∧
    (∀ g, g ∈ gs' → (w.heap.size ≤ g ∨ g ∈ gs) ∧ g < w'.heap.size ∧ own' g ≠ some (.box C.n)) ∧ Φ i ss ∧ StsOk C.n I' own' w' ss ∧ ∀ b l, own' b = some l → (w.heap.size ≤ b ∨ b ∈ gs) ∧ b < w'.heap.size
theorem body_of {ι : Type} (M : Nat → Prop) (res : ι → AV) (Φ : ι → List Stash → Prop) (hok : CfgOk C) {f : FuncId} {fn : Func} {c : Code} (hf : C.P.funcs[f]? = some fn) (hb : fn.body = some c) (hn : C.n = fn.ntmps) {args : List AV} (hsz : args.length ≤ C.n)
    (hrs : (fn.results.toList.map rkey).Nodup) (hkn : ∀ t T, ResultVar.cell t T ∈ fn.results.toList → (C.ti T).kind.known = true) (hx : exec C (fun e σ => ∃ i, Φ i σ.st ∧ BodyPost C fn.results.toList (res i) e σ) [.code c] .normal (startSt args)) (hfix : C.fix = []) (hdf : noDeferC c = true)
    (hspc : (∃ f, C.spc f = true) → args.all AV.isImm = true ∧ ∀ b, ¬ M b) {I : Imm} {w : World} {vs : List Value} {gs : List Nat} (hI : Imm.ok I w) (hreps' : VReps (fun b => M b ∨ w.heap.size ≤ b ∨ b ∈ gs) I w args vs gs) (hnd : gs.Nodup) :
    Calls C.P f vs.toArray w (Ended C M res Φ I w gs) := by
  have hri := start_ok (C := C) hI hreps' hnd hsz hfix
  refine callsIn_wide.1 (callsIn_of_wp_marks (F := Fence.wide) (n := 0) hf hb trivial ?_)
  rw [← hn]
  have hop : (Fx.mk C w I (· ∈ gs) (fun _ => false) (fun _ => False) [] #[] (fun b => M b ∨ w.heap.size ≤ b ∨ b ∈ gs)).open := ⟨fun _ => rfl, fun _ h => h⟩
  have hspo : (Fx.mk C w I (· ∈ gs) (fun _ => false) (fun _ => False) [] #[] (fun b => M b ∨ w.heap.size ≤ b ∨ b ∈ gs)).spo := fun e => by
    have hg := vreps_imm args vs gs hreps' (hspc e).1
    subst hg
    exact ⟨fun b hb => hb.elim (fun e2 => ((hspc e).2 b e2).elim) fun hb => hb.elim id fun e => (by cases e), fun b o u hu => World.block_lt_of_cell? w _ (hI b o u hu)⟩
  refine wpIn_mono (aco_ok c hdf C hok ⟨C, w, I, (· ∈ gs), fun _ => false, fun _ => False, [], #[], fun b => M b ∨ w.heap.size ≤ b ∨ b ∈ gs⟩ rfl hop hspo none (.inl rfl) _ _ I _ _ w hri hx) ?_
  have main : ∀ a' w', Post ⟨C, w, I, (· ∈ gs), fun _ => false, fun _ => False, [], #[], fun b => M b ∨ w.heap.size ≤ b ∨ b ∈ gs⟩ (fun σ => ∃ i, Φ i σ.st ∧ ResFin (resOf C σ fn.results.toList) (res i)) a' w' → bodyPost C.P fn (Ended C M res Φ I w gs) .normal a' w' := by
    intro a' w' ⟨J, own', τ, h1, h2⟩
    obtain ⟨i, hΦ, h2⟩ : ∃ i, Φ i τ.st ∧ ResFin (resOf C τ fn.results.toList) (res i) := h2
    obtain ⟨r0, hr0⟩ : ∃ r0, r0 = res i := ⟨_, rfl⟩
    rw [← hr0] at h2
    refine ⟨h1.defs.1, ?_⟩
    cases hres : resOf C τ fn.results.toList with
    | none => rw [hres] at h2; exact h2.elim
    | some r =>
      rw [hres] at h2
      unfold resOf at hres
      cases hall : resAll C τ fn.results.toList with
      | none => rw [hall] at hres; cases hres
      | some xs =>
        rw [hall] at hres
        obtain ⟨J1, us, gs1, τ', j1, j2, j3, j3', j4, j5, j6, j7, j8⟩ := resAll_ok (F := ⟨C, w, I, (· ∈ gs), fun _ => false, fun _ => False, [], #[], fun b => M b ∨ w.heap.size ≤ b ∨ b ∈ gs⟩) rfl hok _ τ J xs h1 hrs hkn hall
        have hrun := run_results j3
        have fin : ∀ v J2 gs2, (if hs : us.toArray.size = 1 then us.toArray[0] else Value.tuple us.toArray) = v → Imm.le J1 J2 → Imm.ok J2 w' → (∀ b, b ∉ gs1 → ∀ o, J2 b o = J1 b o) → RRep (fun b => M b ∨ w.heap.size ≤ b ∨ b ∈ gs) J2 w' r0 v gs2 → gs2.Nodup → (∀ g, g ∈ gs2 → g ∈ gs1) →
            ∃ v, (results fn a'.tmps).run C.P w' = .ok v w' ∧ Ended C M res Φ I w gs (.returned v) w' := by
          intro v J2 gs2 hv k1 k2 k3 k4 k5 k6
          rw [hv] at hrun
          have hbx : ∀ g, g ∈ gs1 → own' g ≠ some (.box C.n) := fun g hg e => by
            obtain ⟨_, t, _, q2⟩ := j6 g hg
            rw [e] at q2; cases q2
          refine ⟨v, hrun, i, v, J2, gs2, own', τ'.st, rfl, j2.base.trans k1, k2, j2.fr, fun b o u hb => ?_, by rw [← hr0]; exact k4, k5, fun g hg => ?_, by rw [j8]; exact hΦ, j2.st.step k1 (fun b hb o ho => by rw [k3 b (fun e => hbx b e hb) o]; exact ho) (fun _ h => h) (fun _ _ => rfl), fun b l hb => j2.mine b l hb⟩
          · by_cases hbg : b ∈ gs1
            · exact .inr (j6 b hbg).1
            · rw [k3 b hbg o] at hb
              exact j2.inew b o u hb
          · obtain ⟨q1, t, _, q2⟩ := j6 g (k6 g hg)
            exact ⟨q1, (j2.mine g _ q2).2, hbx g (k6 g hg)⟩
        have hM : ∀ g, g ∈ gs1 → Fx.mo ⟨C, w, I, (· ∈ gs), fun _ => false, fun _ => False, [], #[], fun b => M b ∨ w.heap.size ≤ b ∨ b ∈ gs⟩ g := fun g hg => .inr (j6 g hg).1
        cases xs with
        | nil =>
          simp only [resTup, Option.some.injEq] at hres
          subst hres
          cases h2 with
          | one n1 _ _ => exact absurd rfl (n1 _)
          | tup hf =>
            rename_i ys
            obtain ⟨J2, gs2, b1, b2, b3, b4, b5, b6⟩ := fins_ok [] ys us gs1 J1 j2.imm hM j5 j4 hf
            refine fin _ J2 gs2 rfl b1 b2 b3 ⟨us, ?_, b4⟩ b5 b6
            have : us.length = 0 := by rw [← (vreps_len [] us gs1 j4).1]; rfl
            rw [dif_neg (by rw [List.size_toArray, this]; omega)]
        | cons x xs =>
          cases xs with
          | nil =>
            simp only [resTup, Option.some.injEq] at hres
            subst hres
            cases h2 with
            | one n1 n2 hf =>
              obtain ⟨J2, gs2, b1, b2, b3, b4, b5, b6⟩ := fins_ok [x] [r0] us gs1 J1 j2.imm hM j5 j4 (.cons hf .nil)
              obtain ⟨v, rfl⟩ : ∃ v, us = [v] := by
                match us, b4 with
                | [v], _ => exact ⟨v, rfl⟩
                | [], b => exact b.elim
                | _ :: _ :: _, b => obtain ⟨_, _, _, _, e⟩ := b; exact e.elim
              obtain ⟨g1, g2, rfl, q1, q2⟩ := b4
              obtain rfl : g2 = [] := q2
              refine fin v J2 (g1 ++ []) (by rw [dif_pos (by rfl)]; rfl) b1 b2 b3 ?_ b5 b6
              rw [List.append_nil]
              cases r0 <;> first | exact q1 | exact absurd rfl (n2 _)
            | tup hf =>
              -- one result that is a tuple: no such thing stands in memory
              match us, j4 with
              | v :: vs, j4 =>
                obtain ⟨g1, g2, _, q, _⟩ := j4
                rcases vrep_cases q with ⟨_, _, e, _⟩ | ⟨_, _, _, _, _, e, _⟩ | ⟨e, _⟩ <;> cases e
          | cons x2 xs =>
            simp only [resTup, Option.some.injEq] at hres
            subst hres
            cases h2 with
            | one n1 _ _ => exact absurd rfl (n1 _)
            | tup hf =>
              rename_i ys
              obtain ⟨J2, gs2, b1, b2, b3, b4, b5, b6⟩ := fins_ok _ ys us gs1 J1 j2.imm hM j5 j4 hf
              refine fin _ J2 gs2 rfl b1 b2 b3 ⟨us, ?_, b4⟩ b5 b6
              have : us.length = xs.length + 2 := by rw [← (vreps_len _ us gs1 j4).1]; rfl
              rw [dif_neg (by rw [List.size_toArray, this]; omega)]
  have fin : ∀ a' w', PostX ⟨C, w, I, (· ∈ gs), fun _ => false, fun _ => False, [], #[], fun b => M b ∨ w.heap.size ≤ b ∨ b ∈ gs⟩ (fun σ => ∃ i, Φ i σ.st ∧ ResFin (resOf C σ fn.results.toList) (res i)) a' w' → LeavesInM Fence.wide 0 C.P fn a'.tmps (Ended C M res Φ I w gs) a'.defers .returning w' := by
    rintro a' w' ⟨F2, hE, J, own', τ, h1, h2⟩
    obtain ⟨ms, e1, e2, e3⟩ := hE.ds
    have hD : ∀ D, D ∈ ms → w'.heap[D]? = some (.deferred (some [])) := fun D hD => by
      obtain ⟨_, q2, q3⟩ := e3 D hD
      rw [h1.fr.block D (Array.getElem?_eq_some_iff.1 q2).1 q3]
      exact q2
    rw [h1.defs.1, e1, show (Fx.mk C w I (· ∈ gs) (fun _ => false) (fun _ => False) [] #[] (fun b => M b ∨ w.heap.size ≤ b ∨ b ∈ gs)).ds = [] from rfl, List.append_nil]
    refine leaves_marks ms w' e2 hD fun w2 k1 k2 k3 k4 k5 k6 => ?_
    have hmk0 : ∀ b, (Fx.mk C w I (· ∈ gs) (fun _ => false) (fun _ => False) [] #[] (fun b => M b ∨ w.heap.size ≤ b ∨ b ∈ gs)).mine b → (Fx.mk C w I (· ∈ gs) (fun _ => false) (fun _ => False) [] #[] (fun b => M b ∨ w.heap.size ≤ b ∨ b ∈ gs)).mo b := fun b h => Or.inr h
    have h3 := RI.home hmk0 hE hop hfix rfl h1 k1 k2 k3 k4 k5 fun k hk => k6 k fun e => by
      have := (e3 k e).1
      have hk : k < w.heap.size := hk
      have this : w.heap.size ≤ k := this
      omega
    exact (main { tmps := a'.tmps, defers := [] } w2 ⟨J, own', τ, h3, h2⟩).2
  intro e a' w' hq
  cases e with
  | normal => exact fin a' w' hq
  | ret => exact fin a' w' hq
  | exit id => obtain ⟨_, _, _, _, _, _, _, _, hf⟩ := hq; exact hf.elim
  | goto l => exact hq.elim
  | panic ch => exact hq.elim
  | outgrown => exact hq.elim

/-- A contract that keeps marks, out of the abstract run of the body. -/
theorem through_of (hok : CfgOk C) {f : FuncId} {fn : Func} {c : Code} (hf : C.P.funcs[f]? = some fn) (hname : (fn.name == "runtime.NumGoroutine") = false) (hb : fn.body = some c) (hn : C.n = fn.ntmps) {args : List AV} (hsz : args.length ≤ C.n)
    (hrs : (fn.results.toList.map rkey).Nodup) (hkn : ∀ t T, ResultVar.cell t T ∈ fn.results.toList → (C.ti T).kind.known = true) {res : AV} (hx : exec C (BodyPost C fn.results.toList res) [.code c] .normal (startSt args)) (hfix : C.fix = [] := by rfl) (hdf : noDeferC c = true := by kernel_rfl) (hspc : (∃ f, C.spc f = true) → False := by rintro ⟨f, e⟩; cases e) : Through C.P f args res := by
  refine ⟨⟨fn, c, hf, hname, hb⟩, fun M I w vs gs hI hreps hnd => ?_⟩
  refine (body_of M (fun _ : Unit => res) (fun _ _ => True) hok hf hb hn hsz hrs hkn (aco_mono c (fun e σ hq => ⟨(), trivial, hq⟩) _ hx) hfix hdf (fun e => (hspc e).elim) hI (VReps.keep (fun b hb => .inl hb) (Imm.leRefl I) _ _ _ hreps fun _ _ _ => rfl) hnd).mono ?_
  rintro e w' ⟨_, v, I', gs', _, _, q0, q1, q2, q3, q4, q5, q6, q7, _⟩
  exact ⟨v, I', gs', q0, q1, q2, q3, q4, q5, q6, fun g hg => ⟨(q7 g hg).1, (q7 g hg).2.1⟩⟩
/-- A contract, out of the abstract run of the body. -/
theorem contract_of (hok : CfgOk C) {f : FuncId} {fn : Func} {c : Code} (hf : C.P.funcs[f]? = some fn) (hname : (fn.name == "runtime.NumGoroutine") = false) (hb : fn.body = some c) (hn : C.n = fn.ntmps) {args : List AV} (hsz : args.length ≤ C.n) (hpl : ∀ x, x ∈ args → Plain x)
    (hrs : (fn.results.toList.map rkey).Nodup) (hkn : ∀ t T, ResultVar.cell t T ∈ fn.results.toList → (C.ti T).kind.known = true) {res : AV} (hx : exec C (BodyPost C fn.results.toList res) [.code c] .normal (startSt args)) (hfix : C.fix = [] := by rfl) (hdf : noDeferC c = true := by kernel_rfl) (hspc : (∃ f, C.spc f = true) → args.all AV.isImm = true := by rintro ⟨f, e⟩; cases e) : Contract C.P f args res := by
  refine ⟨⟨fn, c, hf, hname, hb⟩, fun I w vs gs hI hreps hnd => ?_⟩
  refine (body_of (fun _ => False) (fun _ : Unit => res) (fun _ _ => True) hok hf hb hn hsz hrs hkn (aco_mono c (fun e σ hq => ⟨(), trivial, hq⟩) _ hx) hfix hdf (fun e => ⟨hspc e, fun _ h => h⟩) hI (VReps.plain args vs gs hreps hpl) hnd).mono ?_
  rintro e w' ⟨_, v, I', gs', _, _, q0, q1, q2, q3, q4, q5, q6, q7, _⟩
  exact ⟨v, I', gs', q0, q1, q2, q3, q4, q5.wider fun b hb => hb.elim False.elim id, q6, fun g hg => ⟨(q7 g hg).1, (q7 g hg).2.1⟩⟩
/-- What keeps marks, for values that bear none. -/
theorem Through.contract {P : Program} {f : FuncId} {args : List AV} {res : AV} (h : Through P f args res) (hpl : ∀ x, x ∈ args → Plain x) : Contract P f args res := by
  refine ⟨h.enters, fun I w vs gs hI hreps hnd => (h.calls (fun _ => False) I w vs gs hI (VReps.plain args vs gs hreps hpl) hnd).mono ?_⟩
  rintro e w' ⟨v, I', gs', q0, q1, q2, q3, q4, q5, q6, q7⟩
  exact ⟨v, I', gs', q0, q1, q2, q3, q4, q5.wider fun b hb => hb.elim False.elim id, q6, q7⟩

end
end Go.Proofs.Ytmngjlgeojbghaa.VA
end
section
namespace Go.Proofs.Ytmngjlgeojbghaa.VA

def zeroB : AV → Value → Bool
  | .int k n, .int k' n' => decide (k = k') && decide (n = n')
  | .bool b, .bool b' => b == b'
  | .str [], .string s => s.size == 0
  | .own _ _ [], .slice none 0 0 => true
  | .nilf, .nilFunc => true
  | _, _ => false
theorem zeroB_ok {x : AV} {v : Value} (h : zeroB x v = true) : zeroIs x v := by
  unfold zeroB at h
  split at h
  · simp only [Bool.and_eq_true, decide_eq_true_eq] at h; obtain ⟨rfl, rfl⟩ := h; rfl
  · simp only [beq_iff_eq] at h; subst h; rfl
  · rename_i s
    have hs : s.size = 0 := by simpa using h
    have : s = ⟨#[]⟩ := by
      obtain ⟨d⟩ := s
      have : d = #[] := Array.eq_empty_of_size_eq_zero hs
      rw [this]
    subst this
    rfl
  · exact ⟨rfl, rfl⟩
  · rfl
  · cases h

def sliceB (e e' esz eb : Nat) : Option TypeInfo → Bool
  | some i => decide (e' = e) && (decide (i.size = esz) && (decide (i.bytes = eb) && (decide (0 < eb) && (decide (0 < esz) && (match i.zero with | some z => decide (z.cells.size = esz) | none => false)))))
  | none => false
def arrB (n n' e e' esz : Nat) : Option TypeInfo → Bool
  | some i => decide (n' = n) && (decide (e' = e) && (decide (i.size = esz) && decide (0 < esz)))
  | none => false
def fieldB (off sz ft : Nat) : Option Field → Option TypeInfo → Bool
  | some f, some i => decide (f.offset = off) && (decide (f.type = ft) && (decide (i.size = sz) && decide (0 < sz)))
  | _, _ => false
def fieldsB (P : Program) (A : Array Field) : Nat → List (Nat × Nat × TypeId) → Bool
  | _, [] => true
  | j, (off, sz, ft) :: r => fieldB off sz ft A[j]? (P.info? ft) && fieldsB P A (j + 1) r
def fitKB (P : Program) : TK → Option TypeDesc → Bool
  | .int k, some (.int k') => decide (k' = k)
  | .bool, some .bool => true
  | .str, some .string => true
  | .func, some (.func _ _ _) => true
  | .slice e esz eb, some (.slice e') => sliceB e e' esz eb (P.info? e)
  | .arr n e esz, some (.array n' e') => arrB n n' e e' esz (P.info? e)
  | .struct fs, some (.struct A) => decide (A.size = fs.length) && fieldsB P A 0 fs
  | _, _ => false
theorem fieldsB_ok {P : Program} {A : Array Field} : ∀ (fs : List (Nat × Nat × TypeId)) (k : Nat), fieldsB P A k fs = true → ∀ (j off sz : Nat) ft, fs[j]? = some (off, sz, ft) →
    ∃ f i, A[k + j]? = some f ∧ f.offset = off ∧ f.type = ft ∧ P.info? ft = some i ∧ i.size = sz ∧ 0 < sz
  | [], k, h, j, off, sz, ft, hj => by simp at hj
  | (o, s, t) :: r, k, h, j, off, sz, ft, hj => by
    simp only [fieldsB, Bool.and_eq_true] at h
    cases j with
    | zero =>
      obtain ⟨rfl, rfl, rfl⟩ : o = off ∧ s = sz ∧ t = ft := by simpa using hj
      have h1 := h.1
      cases hA : A[k]? with
      | none => rw [hA] at h1; cases P.info? t <;> cases h1
      | some f =>
        rw [hA] at h1
        cases hi : P.info? t with
        | none => rw [hi] at h1; cases h1
        | some i =>
          rw [hi] at h1
          simp only [fieldB, Bool.and_eq_true, decide_eq_true_eq] at h1
          exact ⟨f, i, rfl, h1.1, h1.2.1, rfl, h1.2.2.1, h1.2.2.2⟩
    | succ j =>
      obtain ⟨f, i, h1, h2⟩ := fieldsB_ok r (k + 1) h.2 j off sz ft hj
      exact ⟨f, i, by rw [← h1]; congr 1; omega, h2⟩
theorem fitKB_ok {P : Program} {T : TypeId} {k : TK} (h : fitKB P k (P.underlying T) = true) : FitK P T k := by
  generalize hu : P.underlying T = d at h
  unfold fitKB at h
  split at h
  · simp only [decide_eq_true_eq] at h; subst h; exact hu
  · exact hu
  · exact hu
  · exact ⟨_, _, _, hu⟩
  · rename_i e esz eb e'
    cases hi : P.info? e with
    | none => rw [hi] at h; cases h
    | some i =>
      rw [hi] at h
      simp only [sliceB, Bool.and_eq_true, decide_eq_true_eq] at h
      obtain ⟨rfl, h2, h3, h4, h5, h6⟩ := h
      cases hz : i.zero with
      | none => rw [hz] at h6; cases h6
      | some z =>
        rw [hz] at h6
        simp only [decide_eq_true_eq] at h6
        exact ⟨hu, i, z, hi, h2, h3, h4, hz, h6, h5⟩
  · rename_i n e esz n' e'
    cases hi : P.info? e with
    | none => rw [hi] at h; cases h
    | some i =>
      rw [hi] at h
      simp only [arrB, Bool.and_eq_true, decide_eq_true_eq] at h
      obtain ⟨rfl, rfl, h2, h3⟩ := h
      exact ⟨hu, i, hi, h2, h3⟩
  · rename_i fs A
    simp only [Bool.and_eq_true, decide_eq_true_eq] at h
    refine ⟨A, hu, h.1, fun j off sz ft hj => ?_⟩
    obtain ⟨f, i, h1, h2⟩ := fieldsB_ok fs 0 h.2 j off sz ft hj
    exact ⟨f, i, by rw [← h1]; congr 1; omega, h2⟩
  · cases h

def zerosB (z : Value) : Nat → List AV → Bool
  | _, [] => true
  | j, x :: r => (match z.cells[j]? with | some v => zeroB x v | none => false) && zerosB z (j + 1) r
theorem zerosB_ok {z : Value} : ∀ (xs : List AV) (k : Nat), zerosB z k xs = true → ∀ (j : Nat) x v, xs[j]? = some x → z.cells[k + j]? = some v → zeroIs x v
  | [], k, h, j, x, v, hx, hv => by simp at hx
  | y :: r, k, h, j, x, v, hx, hv => by
    simp only [zerosB, Bool.and_eq_true] at h
    cases j with
    | zero =>
      cases hx
      have h1 := h.1
      rw [Nat.add_zero] at hv
      rw [hv] at h1
      exact zeroB_ok h1
    | succ j =>
      exact zerosB_ok r (k + 1) h.2 j x v hx (by rw [← hv]; congr 1; omega)
def aggB : Value → Bool
  | .agg _ => true
  | _ => false
def infoB (t : TI) (i : TypeInfo) : Option Value → Bool
  | some z => decide (i.size = t.size) && (decide (z.cells.size = t.size) && (decide (t.zero.length = t.size) && (zerosB z 0 t.zero && (if t.kind.isAgg = true then aggB z else decide (t.size = 1) && z.oneCell'))))
  | none => false
def fitB (P : Program) (t : TI) (T : TypeId) : Bool :=
  fitKB P t.kind (P.underlying T) && (match P.info? T with | some i => infoB t i i.zero | none => false)
theorem fitB_ok {P : Program} {ti : TypeId → TI} {T : TypeId} (h : fitB P (ti T) T = true) : Fit P ti T := by
  simp only [fitB, Bool.and_eq_true] at h
  refine ⟨fitKB_ok h.1, ?_⟩
  have h2 := h.2
  cases hi : P.info? T with
  | none => rw [hi] at h2; cases h2
  | some i =>
    rw [hi] at h2
    cases hz : i.zero with
    | none => simp only [hz] at h2; cases h2
    | some z =>
      simp only [hz, infoB, Bool.and_eq_true, decide_eq_true_eq] at h2
      obtain ⟨h3, h4, h5, h6, h7⟩ := h2
      refine ⟨i, z, rfl, h3, hz, h4, h5, fun j x v hx hv => zerosB_ok _ 0 h6 j x v hx (by rw [Nat.zero_add]; exact hv), fun ha => ?_, fun ha => ?_⟩
      · rw [if_pos ha] at h7
        cases z <;> first | exact ⟨_, rfl⟩ | cases h7
      · rw [if_neg (by rw [ha]; simp)] at h7
        simp only [Bool.and_eq_true, decide_eq_true_eq] at h7
        exact h7

def tiOf (table : List TI) (t : TypeId) : TI := (table[t]?).getD ⟨0, [], .other⟩
def fitAll (P : Program) (table : List TI) : Bool := (List.range table.length).all fun t => !(tiOf table t).kind.known || fitB P (tiOf table t) t
theorem fitAll_ok {P : Program} {table : List TI} (h : fitAll P table = true) (T : TypeId) (hk : (tiOf table T).kind.known = true) : Fit P (tiOf table) T := by
  by_cases hT : T < table.length
  · simp only [fitAll, List.all_eq_true, List.mem_range] at h
    have := h T hT
    rw [hk] at this
    exact fitB_ok (by simpa using this)
  · have : tiOf table T = ⟨0, [], .other⟩ := by
      unfold tiOf
      rw [List.getElem?_eq_none (Nat.le_of_not_lt hT)]
      rfl
    rw [this] at hk
    cases hk

end Go.Proofs.Ytmngjlgeojbghaa.VA
end
section
namespace Go.Proofs.Ytmngjlgeojbghaa.VA
open Go.ChangeShapes Go.WideShapes

/-- A value of a type. -/
inductive Ty (ti : TypeId → TI) : TypeId → AV → Prop
  | int {t : TypeId} {k : IntKind} (n : Int) (h : (ti t).kind = .int k) (hw : (Lit.int k n).wf = true) : Ty ti t (.int k n)
  | bool {t : TypeId} (b : Bool) (h : (ti t).kind = .bool) : Ty ti t (.bool b)
  | str {t : TypeId} (s : List UInt8) (h : (ti t).kind = .str) (hs : s.length ≤ reachBytes) : Ty ti t (.str s)
  | slice {t e : TypeId} {esz eb : Nat} (es : List AV) (h : (ti t).kind = .slice e esz eb) (hs : es.length * eb ≤ reachBytes) (he : ∀ x, x ∈ es → Ty ti e x) : Ty ti t (.sl false esz es)
  | arr {t e : TypeId} {n esz : Nat} (xs : List AV) (h : (ti t).kind = .arr n e esz) (hn : xs.length = n) (he : ∀ x, x ∈ xs → Ty ti e x) : Ty ti t (.agg (xs.flatMap AV.flat))
  | struct {t : TypeId} {fs : List (Nat × Nat × TypeId)} (xs : List AV) (h : (ti t).kind = .struct fs) (hn : xs.length = fs.length) (he : ∀ (j : Nat) off sz ft x, fs[j]? = some (off, sz, ft) → xs[j]? = some x → Ty ti ft x) : Ty ti t (.agg (xs.flatMap AV.flat))

def contig : Nat → List (Nat × Nat × TypeId) → Nat → Bool
  | o, [], n => decide (o = n)
  | o, (off, sz, _) :: r, n => decide (off = o) && contig (o + sz) r n
def childB (ti : TypeId → TI) (S : List Nat) (t : TypeId) : Bool :=
  match (ti t).kind with
  | .int _ | .bool | .str => true
  | .slice e _ _ => S.contains e
  | .arr n e esz => S.contains e && decide ((ti t).size = n * esz) && decide ((ti e).size = esz)
  | .struct fs => fs.all (fun p => S.contains p.2.2 && decide ((ti p.2.2).size = p.2.1)) && contig 0 fs (ti t).size
  | _ => false
def closedB (ti : TypeId → TI) (S : List Nat) : Bool := S.all (childB ti S)

/-! How much a value holds. -/
mutual
def AV.bulk : AV → Nat
  | .str s => s.length + 1
  | .agg cs => AV.bulks cs + 1
  | .sl _ _ es => AV.bulks es + 1
  | _ => 1
def AV.bulks : List AV → Nat
  | [] => 0
  | x :: xs => AV.bulk x + AV.bulks xs
end
theorem bulks_append : ∀ xs ys : List AV, AV.bulks (xs ++ ys) = AV.bulks xs + AV.bulks ys
  | [], ys => by simp [AV.bulks]
  | x :: xs, ys => by rw [List.cons_append, AV.bulks, AV.bulks, bulks_append xs ys]; omega
theorem bulks_flat : ∀ xs : List AV, AV.bulks (xs.flatMap AV.flat) ≤ AV.bulks xs
  | [] => by simp [AV.bulks]
  | x :: xs => by
    rw [List.flatMap_cons, bulks_append, AV.bulks]
    have h1 := bulks_flat xs
    have h2 : AV.bulks x.flat ≤ AV.bulk x := by cases x <;> simp [AV.flat, AV.bulk, AV.bulks]
    omega
theorem bulks_le : ∀ (xs : List AV) (ns : List Nat), xs.length ≤ ns.length → (∀ (j : Nat) x n, xs[j]? = some x → ns[j]? = some n → x.bulk ≤ n) → AV.bulks xs ≤ ns.sum
  | [], ns, _, _ => by simp [AV.bulks]
  | x :: xs, [], h, _ => by simp at h
  | x :: xs, n :: ns, h, k => by
    rw [AV.bulks, List.sum_cons]
    have h1 := bulks_le xs ns (by simpa using h) fun j x n hx hn => k (j + 1) x n hx hn
    have h2 := k 0 x n rfl rfl
    omega
/-- A measure of data. -/
structure BulkOk {H : Type} (B : DataW H → Nat) : Prop where
  one : ∀ d, 1 ≤ B d
  str : ∀ bs, bs.length + 1 ≤ B (.lit (.string bs))
  slice : ∀ es sp, (es.map B).sum + 1 ≤ B (.slice es sp)
  agg : ∀ ps, (ps.map B).sum + 1 ≤ B (.agg ps)
mutual
def bulkD {H : Type} : DataW H → Nat
  | .lit (.string bytes) => bytes.length + 1
  | .slice elems _ => bulkDs elems + 1
  | .agg parts => bulkDs parts + 1
  | _ => 1
def bulkDs {H : Type} : List (DataW H) → Nat
  | [] => 0
  | d :: r => bulkD d + bulkDs r
end
theorem bulkDs_sum {H : Type} : ∀ l : List (DataW H), bulkDs l = (l.map bulkD).sum
  | [] => by simp [bulkDs]
  | d :: r => by rw [bulkDs, List.map_cons, List.sum_cons, bulkDs_sum r]
theorem bulkD_ok {H : Type} : BulkOk (H := H) bulkD where
  one d := by cases d <;> (try rename_i l; cases l) <;> simp [bulkD]
  str bs := by simp [bulkD]
  slice es sp := by rw [bulkD, bulkDs_sum]; exact Nat.le_refl _
  agg ps := by rw [bulkD, bulkDs_sum]; exact Nat.le_refl _

/-- The value that a list of cells is. -/
def valOf (agg : Bool) (cs : List Value) : Value := if agg = true then .agg cs.toArray else cs.headD undef
/-- All cells of a world. -/
def allCells (w : World) : Imm := fun b o => w.cell? ⟨b, o, none⟩
theorem allCells_ok (w : World) : Imm.ok (allCells w) w := fun _ _ _ h => h

section
variable {H : Type} {enc : TypeId × Value → H} {P : Program} {w : World} {base : Nat} {spare : Nat → Bool} {held : Bool} {ti : TypeId → TI} {S : List Nat}

theorem weightsAll_mem {e : TypeId} : ∀ (ds : List (DataW H)) (d : DataW H), d ∈ ds → (DataW.weightsAll P e ds).all (· ≤ reachBytes) = true → (d.weights P e).all (· ≤ reachBytes) = true
  | [], d, hd, _ => by cases hd
  | x :: r, d, hd, h => by
    simp only [DataW.weightsAll, List.all_append, Bool.and_eq_true] at h
    rcases List.mem_cons.1 hd with rfl | hd
    · exact h.1
    · exact weightsAll_mem r d hd h.2
theorem weightsEach_get : ∀ (ts : List TypeId) (ds : List (DataW H)) (j : Nat) (t : TypeId) (d : DataW H), ts[j]? = some t → ds[j]? = some d → (DataW.weightsEach P ts ds).all (· ≤ reachBytes) = true → (d.weights P t).all (· ≤ reachBytes) = true
  | [], ds, j, t, d, ht, _, _ => by simp at ht
  | _ :: _, [], j, t, d, _, hd, _ => by simp at hd
  | t0 :: ts, d0 :: ds, j, t, d, ht, hd, h => by
    simp only [DataW.weightsEach, List.all_append, Bool.and_eq_true] at h
    cases j with
    | zero => cases ht; cases hd; exact h.1
    | succ j => exact weightsEach_get ts ds j t d ht hd h.2

theorem cellsOf_fit {T : TypeId} (h : Fit P ti T) : P.cellsOf T = (ti T).size := by
  obtain ⟨i, z, h1, h2, _⟩ := h.info
  simp [Program.cellsOf, h1, h2]

/-- Parts laid one behind another. -/
theorem flat_get : ∀ (xs : List AV) (sizes : List Nat), xs.length = sizes.length → (∀ (j : Nat) x n, xs[j]? = some x → sizes[j]? = some n → x.flat.length = n) → (xs.flatMap AV.flat).length = sizes.sum
  | [], [], _, _ => rfl
  | x :: xs, n :: ns, hl, h => by
    simp only [List.flatMap_cons, List.length_append, List.sum_cons]
    rw [h 0 x n rfl rfl, flat_get xs ns (by simpa using hl) fun j x n hx hn => h (j + 1) x n hx hn]

theorem agg_parts {I : Imm} {M : Nat → Prop} : ∀ (xs : List AV) (vs : List Value) (cs : List Value), xs.length = vs.length → cs = vs.flatMap (fun v => v.cells.toList) → (∀ (j : Nat) x v, xs[j]? = some x → vs[j]? = some v → AR M I x v) →
    (xs.flatMap AV.flat).length = cs.length ∧ (∀ (j : Nat) v, cs[j]? = some v → v.oneCell' = true) ∧ ∀ (j : Nat) c v, (xs.flatMap AV.flat)[j]? = some c → cs[j]? = some v → AR M I c v
  | [], [], cs, _, hc, _ => by
    subst hc
    exact ⟨rfl, fun j v hv => by simp at hv, fun j c v hc => by simp at hc⟩
  | x :: xs, v :: vs, cs, hl, hc, h => by
    subst hc
    obtain ⟨h1, h2, h3⟩ := agg_parts xs vs _ (by simpa using hl) rfl fun j x v hx hv => h (j + 1) x v hx hv
    have hx := h 0 x v rfl rfl
    have hlen : x.flat.length = v.cells.toList.length := by rw [hx.flen]; simp
    simp only [List.flatMap_cons]
    refine ⟨by simp only [List.length_append, h1, hlen], fun j u hu => ?_, fun j c u hc hu => ?_⟩
    · by_cases hj : j < v.cells.toList.length
      · rw [List.getElem?_append_left hj] at hu
        exact hx.one j u (by simpa using hu)
      · rw [List.getElem?_append_right (by omega)] at hu
        exact h2 _ u hu
    · by_cases hj : j < v.cells.toList.length
      · rw [List.getElem?_append_left hj] at hu
        rw [List.getElem?_append_left (by omega)] at hc
        exact hx.fcell j c u hc (by simpa using hu)
      · rw [List.getElem?_append_right (by omega)] at hu hc
        rw [hlen] at hc
        exact h3 _ c u hc hu
  | [], _ :: _, _, hl, _, _ => by simp at hl
  | _ :: _, [], _, hl, _, _ => by simp at hl

/-- A list cut into parts at contiguous places. -/
theorem contig_cut : ∀ (fs : List (Nat × Nat × TypeId)) (o n : Nat) (cs : List Value), contig o fs n = true → cs.length + o = n → o ≤ n →
    cs = (fs.map fun p => (cs.drop (p.1 - o)).take p.2.1).flatten ∧ ∀ p, p ∈ fs → o ≤ p.1 ∧ p.1 - o + p.2.1 ≤ cs.length
  | [], o, n, cs, h, hl, ho => by
    simp only [contig, decide_eq_true_eq] at h
    have : cs.length = 0 := by omega
    exact ⟨by simpa using List.eq_nil_of_length_eq_zero this, fun p hp => by cases hp⟩
  | (off, sz, ft) :: r, o, n, cs, h, hl, ho => by
    simp only [contig, Bool.and_eq_true, decide_eq_true_eq] at h
    obtain ⟨rfl, h2⟩ := h
    have hsum : off + sz ≤ n := by
      have gen : ∀ (r : List (Nat × Nat × TypeId)) (o : Nat), contig o r n = true → o ≤ n := by
        intro r
        induction r with
        | nil => intro o h; simp only [contig, decide_eq_true_eq] at h; omega
        | cons p r ih =>
          intro o h
          obtain ⟨a, b, c⟩ := p
          simp only [contig, Bool.and_eq_true, decide_eq_true_eq] at h
          have := ih _ h.2
          omega
      exact gen r _ h2
    obtain ⟨h3, h4⟩ := contig_cut r (off + sz) n (cs.drop sz) h2 (by rw [List.length_drop]; omega) hsum
    refine ⟨?_, fun p hp => ?_⟩
    · rw [List.map_cons, List.flatten_cons, Nat.sub_self, List.drop_zero]
      conv => lhs; rw [← List.take_append_drop sz cs]
      congr 1
      rw [h3]
      congr 1
      apply List.map_congr_left
      intro p hp
      obtain ⟨q1, q2⟩ := h4 p hp
      rw [List.drop_drop, show sz + (p.1 - (off + sz)) = p.1 - off by omega]
    · rcases List.mem_cons.1 hp with rfl | hp
      · simp only [Nat.sub_self, Nat.zero_add]
        exact ⟨Nat.le_refl _, by omega⟩
      · obtain ⟨q1, q2⟩ := h4 p hp
        rw [List.length_drop] at q2
        exact ⟨by omega, by omega⟩

theorem cells_val {ag : Bool} {cs : List Value} (h1 : ag = false → ∃ v, cs = [v] ∧ v.oneCell' = true) : (valOf ag cs).cells.toList = cs := by
  unfold valOf
  cases ag with
  | true => simp [Value.cells]
  | false =>
    obtain ⟨v, rfl, hv⟩ := h1 rfl
    rw [if_neg (by simp)]
    simp [cells_one hv]

/-- What is read as data is a typed value. -/
theorem trod_ty2 {B : DataW H → Nat} (hB : BulkOk B) (hfit : ∀ T, (ti T).kind.known = true → Fit P ti T) (hS : closedB ti S = true) : ∀ (fuel : Nat) (t : TypeId) (cs : List Value) (d : DataW H) (ps : List MemPlace), t ∈ S → DataW.trod enc P w base spare held fuel t cs = some (d, ps) →
    (d.weights P t).all (· ≤ reachBytes) = true → ∃ x, Ty ti t x ∧ AR (fun _ => True) (allCells w) x (valOf (ti t).kind.isAgg cs) ∧ ((ti t).kind.isAgg = false → ∃ v, cs = [v] ∧ v.oneCell' = true) ∧ x.bulk ≤ B d := by
  intro fuel
  induction fuel with
  | zero => intro t cs d ps _ h; simp [DataW.trod] at h
  | succ fuel ih =>
    intro t cs d ps ht h hw
    simp only [closedB, List.all_eq_true] at hS
    have hc := hS t ht
    unfold childB at hc
    have hch : ∀ e, S.contains e = true → e ∈ S := fun e he => by simpa using he
    cases hk : (ti t).kind with
    | int k =>
      have hf := (hfit t (by rw [hk]; rfl)).kind
      rw [hk] at hf
      obtain ⟨n, rfl, _, hwf⟩ := DataW.trod_int (show P.underlying t = some (.int k) from hf) h
      exact ⟨.int k n, .int n hk hwf, .int k n, fun _ => ⟨_, rfl, rfl⟩, hB.one _⟩
    | bool =>
      have hf := (hfit t (by rw [hk]; rfl)).kind
      rw [hk] at hf
      obtain ⟨b, rfl, _⟩ := DataW.trod_bool (show P.underlying t = some .bool from hf) h
      exact ⟨.bool b, .bool b hk, .bool b, fun _ => ⟨_, rfl, rfl⟩, hB.one _⟩
    | str =>
      have hf := (hfit t (by rw [hk]; rfl)).kind
      rw [hk] at hf
      obtain ⟨s, rfl, hd, _⟩ := DataW.trod_string (show P.underlying t = some .string from hf) h
      cases hd
      simp only [DataW.weights, List.all_cons, List.all_nil, Bool.and_true, decide_eq_true_eq] at hw
      have hs : (⟨s.data.toList.toArray⟩ : ByteArray) = s := by cases s; simp
      refine ⟨.str s.data.toList, .str _ hk hw, ?_, fun _ => ⟨_, rfl, rfl⟩, hB.str _⟩
      have := AR.str (M := fun _ => True) (I := allCells w) s.data.toList
      rw [hs] at this
      exact this
    | func => rw [hk] at hc; cases hc
    | other => rw [hk] at hc; cases hc
    | slice e esz eb =>
      rw [hk] at hc
      have hf := (hfit t (by rw [hk]; rfl)).kind
      rw [hk] at hf
      obtain ⟨hu, ie, z, hie, hsz, hby, hb0, hz, hzs, he0⟩ := hf
      have hcell : P.cellsOf e = esz := by simp [Program.cellsOf, hie, hsz]
      have hbytes : P.bytesOf e = eb := by simp [Program.bytesOf, hie, hby]
      rcases DataW.trod_slice hu h with ⟨rfl, hx⟩ | ⟨a, len, cap, elems, rest, n, hn, rfl, hx, _, hlc, hcm, hel, hget, _, _⟩
      · cases hx
        exact ⟨.sl false esz [], .slice [] hk (by simp) (fun x hx => by cases hx), .slnil false esz none 0, fun _ => ⟨_, rfl, rfl⟩, hB.one _⟩
      · obtain rfl : fuel = n := by omega
        cases hx
        simp only [DataW.weights, hu, List.all_cons, List.all_append, Bool.and_eq_true, decide_eq_true_eq, hbytes, List.length_map] at hw
        have each : ∀ i, ∃ x cs, i < len → w.cells? base (a.add (i * esz)) esz = some cs ∧ Ty ti e x ∧ AR (fun _ => True) (allCells w) x (valOf (ti e).kind.isAgg cs) ∧ (valOf (ti e).kind.isAgg cs).cells.toList = cs ∧ ∀ n, ((elems.map (·.1)).map B)[i]? = some n → x.bulk ≤ n := by
          intro i
          by_cases hi : i < len
          · have hg := hget i hi
            rw [hcell] at hg
            have hie' : i < elems.length := by omega
            rw [List.getElem?_eq_getElem hie', Option.bind_eq_some_iff] at hg
            obtain ⟨cs, hcs, htr⟩ := hg
            have hwi := weightsAll_mem (P := P) (e := e) (elems.map (·.1)) elems[i].1 (List.mem_map.2 ⟨elems[i], List.getElem_mem hie', rfl⟩) hw.2.1
            obtain ⟨x, x1, x2, x3, x4⟩ := ih e cs elems[i].1 elems[i].2 (hch e hc) htr hwi
            refine ⟨x, cs, fun _ => ⟨hcs, x1, x2, cells_val x3, fun n hn => ?_⟩⟩
            rw [List.getElem?_map, List.getElem?_map, List.getElem?_eq_getElem hie'] at hn
            cases hn
            exact x4
          · exact ⟨.bot, [], fun h => (hi h).elim⟩
        obtain ⟨f, hf⟩ := Classical.axiomOfChoice each
        obtain ⟨g, hg⟩ := Classical.axiomOfChoice hf
        have hlen : ((List.range len).map f).length = len := by simp
        refine ⟨.sl false esz ((List.range len).map f), .slice _ hk ?_ fun x hx => ?_, ?_, fun _ => ⟨_, rfl, rfl⟩, Nat.le_trans (Nat.succ_le_succ (bulks_le _ ((elems.map (·.1)).map B) (by simp; omega) fun j x n hx hn => ?_)) (hB.slice _ _)⟩
        · rw [hlen]
          refine Nat.le_trans (Nat.mul_le_mul_right _ ?_) hw.1
          rw [← hel]; exact Nat.le_add_right _ _
        · obtain ⟨i, hi, rfl⟩ := List.mem_map.1 hx
          exact (hg i (List.mem_range.1 hi)).2.1
        · show AR _ _ _ (.slice (some a) len cap)
          by_cases h0 : len = 0
          · subst h0
            exact .slnil false esz (some a) cap
          · obtain ⟨b, o, sp⟩ := a
            have hcellat : ∀ i j c, i < len → (g i)[j]? = some c → w.cell? ⟨b, o + i * esz + j, none⟩ = some c ∧ (i = 0 → j = 0 → sp = none) := by
              intro i j c hi hj
              obtain ⟨h1, _⟩ := hg i hi
              obtain ⟨_, h3, h4⟩ := World.cells?_some h1
              have hjl := (List.getElem?_eq_some_iff.1 hj).1
              have := h4 j (by omega)
              rw [hj] at this
              by_cases hz : i * esz = 0
              · by_cases hj0 : j = 0
                · subst hj0
                  have e1 : (⟨b, o, sp⟩ : Addr).add (i * esz) = ⟨b, o, sp⟩ := by unfold Addr.add; rw [if_pos hz]
                  have e2 : (⟨b, o, sp⟩ : Addr).add 0 = ⟨b, o, sp⟩ := by unfold Addr.add; rw [if_pos rfl]
                  rw [e1, e2] at this
                  have hsp : sp = none := by
                    unfold World.cell? at this
                    simp only at this
                    split at this
                    · split at this
                      · cases this
                      · rename_i hs
                        cases sp with
                        | none => rfl
                        | some x => simp at hs
                    · cases this
                  subst hsp
                  rw [hz]
                  exact ⟨this, fun _ _ => rfl⟩
                · have e1 : (⟨b, o, sp⟩ : Addr).add (i * esz) = ⟨b, o, sp⟩ := by unfold Addr.add; rw [if_pos hz]
                  have e2 : (⟨b, o, sp⟩ : Addr).add j = ⟨b, o + j, none⟩ := by unfold Addr.add; rw [if_neg hj0]
                  rw [e1, e2] at this
                  rw [hz]
                  exact ⟨this, fun _ e => (hj0 e).elim⟩
              · have e1 : (⟨b, o, sp⟩ : Addr).add (i * esz) = ⟨b, o + i * esz, none⟩ := by unfold Addr.add; rw [if_neg hz]
                rw [e1, Addr.add_lit] at this
                refine ⟨this, fun e _ => ?_⟩
                subst e
                simp at hz
            have hsp : sp = none := by
              obtain ⟨h1, _, _, h4, _⟩ := hg 0 (by omega)
              obtain ⟨_, h3, _⟩ := World.cells?_some h1
              have hl : 0 < (g 0).length := by omega
              exact (hcellat 0 0 _ (by omega) (List.getElem?_eq_getElem hl)).2 rfl rfl
            subst hsp
            refine .sl false esz _ b o len cap hlen.symm hlc (fun i => valOf (ti e).kind.isAgg (g i)) (fun i q hq => ?_) (fun i hi => ?_) (fun i j c hi hj => ?_) (fun e => by cases e)
            · have hil : i < len := by
                have := (List.getElem?_eq_some_iff.1 hq).1
                rwa [hlen] at this
              rw [List.getElem?_map, List.getElem?_range hil] at hq
              simp only [Option.map_some, Option.some.injEq] at hq
              subst hq
              exact (hg i hil).2.2.1
            · rw [hlen] at hi
              obtain ⟨h1, _, _, h4, _⟩ := hg i hi
              obtain ⟨_, h3, _⟩ := World.cells?_some h1
              rw [← Array.length_toList, h4, h3]
            · rw [hlen] at hi
              obtain ⟨h1, _, _, h4, _⟩ := hg i hi
              rw [← Array.getElem?_toList, h4] at hj
              exact (hcellat i j c hi hj).1
        · have hj : j < len := by
            have := (List.getElem?_eq_some_iff.1 hx).1
            simpa using this
          rw [List.getElem?_map, List.getElem?_range hj] at hx
          cases hx
          exact (hg j hj).2.2.2.2 n hn
    | arr n e esz =>
      rw [hk] at hc
      simp only [Bool.and_eq_true, decide_eq_true_eq] at hc
      have hfT := hfit t (by rw [hk]; rfl)
      have hf := hfT.kind
      rw [hk] at hf
      obtain ⟨hu, ie, hie, hsz, he0⟩ := hf
      have hcell : P.cellsOf e = esz := by simp [Program.cellsOf, hie, hsz]
      obtain ⟨xs, m, hm, hx, hl, hxl, hget⟩ := DataW.trod_array hu h
      obtain rfl : fuel = m := by omega
      cases hx
      simp only [DataW.weights, hu] at hw
      rw [cellsOf_fit hfT, hc.1.2] at hl
      have each : ∀ i, ∃ x, i < n → Ty ti e x ∧ AR (fun _ => True) (allCells w) x (valOf (ti e).kind.isAgg ((cs.drop (i * esz)).take esz)) ∧ (valOf (ti e).kind.isAgg ((cs.drop (i * esz)).take esz)).cells.toList = (cs.drop (i * esz)).take esz ∧ ∀ n, ((xs.map (·.1)).map B)[i]? = some n → x.bulk ≤ n := by
        intro i
        by_cases hi : i < n
        · have hg := hget i hi
          rw [hcell] at hg
          have hie' : i < xs.length := by omega
          rw [List.getElem?_eq_getElem hie'] at hg
          have hwi := weightsAll_mem (P := P) (e := e) (xs.map (·.1)) xs[i].1 (List.mem_map.2 ⟨xs[i], List.getElem_mem hie', rfl⟩) hw
          obtain ⟨x, x1, x2, x3, x4⟩ := ih e _ xs[i].1 xs[i].2 (hch e hc.1.1) hg hwi
          refine ⟨x, fun _ => ⟨x1, x2, cells_val x3, fun n hn => ?_⟩⟩
          rw [List.getElem?_map, List.getElem?_map, List.getElem?_eq_getElem hie'] at hn
          cases hn
          exact x4
        · exact ⟨.bot, fun h => (hi h).elim⟩
      obtain ⟨f, hf⟩ := Classical.axiomOfChoice each
      have hcs : cs = ((List.range n).map fun i => valOf (ti e).kind.isAgg ((cs.drop (i * esz)).take esz)).flatMap fun v => v.cells.toList := by
        have cut : ∀ (n : Nat) (cs : List Value), cs.length = n * esz → cs = ((List.range n).map fun i => (cs.drop (i * esz)).take esz).flatten := by
          intro n
          induction n with
          | zero => intro cs hl; simpa using hl
          | succ n ihn =>
            intro cs hl
            rw [Nat.add_mul, Nat.one_mul] at hl
            have h1 := ihn (cs.take (n * esz)) (by rw [List.length_take]; omega)
            rw [List.range_succ, List.map_append, List.flatten_append]
            conv => lhs; rw [← List.take_append_drop (n * esz) cs]
            congr 1
            · conv => lhs; rw [h1]
              congr 1
              apply List.map_congr_left
              intro i hi
              have hi := List.mem_range.1 hi
              have : (i + 1) * esz ≤ n * esz := Nat.mul_le_mul_right _ hi
              rw [Nat.add_mul, Nat.one_mul] at this
              rw [List.drop_take, List.take_take, Nat.min_eq_left (by omega)]
            · simp only [List.map_cons, List.map_nil, List.flatten_cons, List.flatten_nil, List.append_nil]
              rw [List.take_of_length_le (by rw [List.length_drop]; omega)]
        conv => lhs; rw [cut n cs hl]
        rw [List.flatMap_def, List.map_map]
        congr 1
        apply List.map_congr_left
        intro i hi
        exact (hf i (List.mem_range.1 hi)).2.2.1.symm
      obtain ⟨q1, q2, q3⟩ := agg_parts (M := fun _ => True) (I := allCells w) ((List.range n).map f) _ cs (by simp) hcs (fun j x v hx hv => by
        have hj : j < n := by
          have := (List.getElem?_eq_some_iff.1 hx).1
          simpa using this
        rw [List.getElem?_map, List.getElem?_range hj] at hx hv
        cases hx
        cases hv
        exact (hf j hj).2.1)
      refine ⟨_, .arr ((List.range n).map f) hk (by simp) fun x hx => ?_, ?_, fun e => (by cases e), Nat.le_trans (Nat.succ_le_succ (Nat.le_trans (bulks_flat _) (bulks_le _ ((xs.map (·.1)).map B) (by simp; omega) fun j x m hx hm => ?_))) (hB.agg _)⟩
      · obtain ⟨i, hi, rfl⟩ := List.mem_map.1 hx
        exact (hf i (List.mem_range.1 hi)).1
      · exact .agg _ _ (by rw [q1]; simp) (fun j v hv => q2 j v (by simpa using hv)) fun j c v hc hv => q3 j c v hc (by simpa using hv)
      · have hj : j < n := by
          have := (List.getElem?_eq_some_iff.1 hx).1
          simpa using this
        rw [List.getElem?_map, List.getElem?_range hj] at hx
        cases hx
        exact (hf j hj).2.2.2 m hm
    | struct fs =>
      rw [hk] at hc
      simp only [Bool.and_eq_true, List.all_eq_true, decide_eq_true_eq] at hc
      have hfT := hfit t (by rw [hk]; rfl)
      have hf := hfT.kind
      rw [hk] at hf
      obtain ⟨A, hu, hAl, hA⟩ := hf
      obtain ⟨xs, m, hm, hx, hl, hxl, hget⟩ := DataW.trod_struct hu h
      obtain rfl : fuel = m := by omega
      cases hx
      simp only [DataW.weights, hu] at hw
      rw [cellsOf_fit hfT] at hl
      obtain ⟨cut1, cut2⟩ := contig_cut fs 0 (ti t).size cs hc.2 (by omega) (by omega)
      simp only [Nat.sub_zero] at cut1 cut2
      have each : ∀ j : Nat, ∃ x, ∀ (off sz : Nat) (ft : TypeId), fs[j]? = some (off, sz, ft) → Ty ti ft x ∧ AR (fun _ => True) (allCells w) x (valOf (ti ft).kind.isAgg ((cs.drop off).take sz)) ∧ (valOf (ti ft).kind.isAgg ((cs.drop off).take sz)).cells.toList = (cs.drop off).take sz ∧ ∀ n, ((xs.map (·.1)).map B)[j]? = some n → x.bulk ≤ n := by
        intro j
        cases hj : fs[j]? with
        | none => exact ⟨.bot, fun off sz ft e => by cases e⟩
        | some p =>
          obtain ⟨off, sz, ft⟩ := p
          obtain ⟨fd, i, f1, f2, f3, f4, f5, f6⟩ := hA j off sz ft hj
          have hg := hget j fd f1
          have hcell : P.cellsOf fd.type = sz := by rw [f3]; simp [Program.cellsOf, f4, f5]
          rw [f2, f3] at hg
          rw [f3] at hcell
          rw [hcell] at hg
          have hjl : j < xs.length := by
            have := (List.getElem?_eq_some_iff.1 hj).1
            omega
          rw [List.getElem?_eq_getElem hjl] at hg
          have hwj := weightsEach_get (P := P) (A.toList.map (·.type)) (xs.map (·.1)) j ft xs[j].1 (by rw [List.getElem?_map, Array.getElem?_toList, f1, Option.map_some, f3]) (by rw [List.getElem?_map, List.getElem?_eq_getElem hjl]; rfl) hw
          obtain ⟨x, x1, x2, x3, x4⟩ := ih ft _ xs[j].1 xs[j].2 (hch ft (hc.1 _ (List.mem_of_getElem? hj)).1) hg hwj
          refine ⟨x, fun off' sz' ft' e => ?_⟩
          cases e
          refine ⟨x1, x2, cells_val x3, fun n hn => ?_⟩
          rw [List.getElem?_map, List.getElem?_map, List.getElem?_eq_getElem hjl] at hn
          cases hn
          exact x4
      obtain ⟨f, hf⟩ := Classical.axiomOfChoice each
      have hcs : cs = (fs.map fun p => valOf (ti p.2.2).kind.isAgg ((cs.drop p.1).take p.2.1)).flatMap fun v => v.cells.toList := by
        conv => lhs; rw [cut1]
        rw [List.flatMap_def, List.map_map]
        congr 1
        apply List.map_congr_left
        intro p hp
        obtain ⟨j, hj⟩ := List.getElem?_of_mem hp
        exact (hf j p.1 p.2.1 p.2.2 hj).2.2.1.symm
      obtain ⟨q1, q2, q3⟩ := agg_parts (M := fun _ => True) (I := allCells w) ((List.range fs.length).map f) _ cs (by simp) hcs (fun j x v hx hv => by
        have hj : j < fs.length := by
          have := (List.getElem?_eq_some_iff.1 hx).1
          simpa using this
        rw [List.getElem?_map, List.getElem?_range hj] at hx
        rw [List.getElem?_map, List.getElem?_eq_getElem hj] at hv
        cases hx
        cases hv
        exact (hf j _ _ _ (List.getElem?_eq_getElem hj)).2.1)
      refine ⟨_, .struct ((List.range fs.length).map f) hk (by simp) fun j off sz ft x hj hx => ?_, ?_, fun e => (by cases e), Nat.le_trans (Nat.succ_le_succ (Nat.le_trans (bulks_flat _) (bulks_le _ ((xs.map (·.1)).map B) (by simp; omega) fun j x n hx hn => ?_))) (hB.agg _)⟩
      · have hjl := (List.getElem?_eq_some_iff.1 hj).1
        rw [List.getElem?_map, List.getElem?_range hjl] at hx
        cases hx
        exact (hf j off sz ft hj).1
      · exact .agg _ _ (by rw [q1]; simp) (fun j v hv => q2 j v (by simpa using hv)) fun j c v hc hv => q3 j c v hc (by simpa using hv)
      · have hjl : j < fs.length := by
          have := (List.getElem?_eq_some_iff.1 hx).1
          simpa using this
        rw [List.getElem?_map, List.getElem?_range hjl] at hx
        cases hx
        exact (hf j _ _ _ (List.getElem?_eq_getElem hjl)).2.2.2 n hn
theorem trod_ty (hfit : ∀ T, (ti T).kind.known = true → Fit P ti T) (hS : closedB ti S = true) (fuel : Nat) (t : TypeId) (cs : List Value) (d : DataW H) (ps : List MemPlace) (ht : t ∈ S) (h : DataW.trod enc P w base spare held fuel t cs = some (d, ps))
    (hw : (d.weights P t).all (· ≤ reachBytes) = true) : ∃ x, Ty ti t x ∧ AR (fun _ => True) (allCells w) x (valOf (ti t).kind.isAgg cs) ∧ ((ti t).kind.isAgg = false → ∃ v, cs = [v] ∧ v.oneCell' = true) :=
  let ⟨x, h1, h2, h3, _⟩ := trod_ty2 bulkD_ok hfit hS fuel t cs d ps ht h hw
  ⟨x, h1, h2, h3⟩

end
end Go.Proofs.Ytmngjlgeojbghaa.VA
end
section
namespace Go.Proofs.Ytmngjlgeojbghaa.VA
set_option maxRecDepth 100000
def table : List TI := [
  ⟨0, [], .other⟩,
  ⟨1, [.nilf], .func⟩,
  ⟨1, [.int .i64 0], .int .i64⟩,
  ⟨1, [.int .i64 0], .int .i64⟩,
  ⟨1, [.bool false], .bool⟩,
  ⟨1, [.int .u8 0], .int .u8⟩,
  ⟨1, [.int .u8 0], .int .u8⟩,
  ⟨4, [.int .i64 0, .int .i64 0, .bool false, .int .u8 0], .struct [(0, 1, 2), (1, 1, 3), (2, 1, 4), (3, 1, 6)]⟩,
  ⟨4, [.int .i64 0, .int .i64 0, .bool false, .int .u8 0], .struct [(0, 1, 2), (1, 1, 3), (2, 1, 4), (3, 1, 6)]⟩,
  ⟨1, [.str []], .str⟩,
  ⟨1, [.str []], .str⟩,
  ⟨1, [.str []], .str⟩,
  ⟨1, [.int .u64 0], .int .u64⟩,
  ⟨2, [.str [], .int .u64 0], .struct [(0, 1, 9), (1, 1, 12)]⟩,
  ⟨2, [.str [], .int .u64 0], .struct [(0, 1, 9), (1, 1, 12)]⟩,
  ⟨0, [], .other⟩,
  ⟨0, [], .other⟩,
  ⟨0, [], .other⟩,
  ⟨0, [], .other⟩,
  ⟨0, [], .other⟩,
  ⟨0, [], .other⟩,
  ⟨1, [.int .i32 0], .int .i32⟩,
  ⟨1, [.own false 4 []], .slice 28 4 64⟩,
  ⟨1, [.nilf], .func⟩,
  ⟨1, [.own false 3 []], .slice 26 3 48⟩,
  ⟨3, [.bool false, .str [], .own false 3 []], .struct [(0, 1, 4), (1, 1, 9), (2, 1, 24)]⟩,
  ⟨3, [.bool false, .str [], .own false 3 []], .struct [(0, 1, 4), (1, 1, 9), (2, 1, 24)]⟩,
  ⟨4, [.bool false, .str [], .own false 3 [], .str []], .struct [(0, 3, 26), (3, 1, 9)]⟩,
  ⟨4, [.bool false, .str [], .own false 3 [], .str []], .struct [(0, 3, 26), (3, 1, 9)]⟩,
  ⟨1, [.int .i64 0], .int .i64⟩,
  ⟨0, [], .other⟩,
  ⟨1, [.nilf], .func⟩,
  ⟨1, [.nilf], .func⟩,
  ⟨0, [], .other⟩,
  ⟨1, [.nilf], .func⟩,
  ⟨1, [.nilf], .func⟩,
  ⟨1, [.nilf], .func⟩,
  ⟨1, [.nilf], .func⟩,
  ⟨0, [], .other⟩,
  ⟨1, [.nilf], .func⟩,
  ⟨1, [.nilf], .func⟩,
  ⟨0, [], .other⟩,
  ⟨1, [.nilf], .func⟩,
  ⟨1, [.nilf], .func⟩,
  ⟨1, [.nilf], .func⟩,
  ⟨1, [.own false 1 []], .slice 5 1 1⟩,
  ⟨1, [.nilf], .func⟩,
  ⟨1, [.nilf], .func⟩,
  ⟨1, [.nilf], .func⟩,
  ⟨1, [.nilf], .func⟩,
  ⟨0, [], .other⟩,
  ⟨1, [.nilf], .func⟩,
  ⟨1, [.nilf], .func⟩,
  ⟨1, [.nilf], .func⟩,
  ⟨1, [.nilf], .func⟩,
  ⟨1, [.nilf], .func⟩,
  ⟨1, [.nilf], .func⟩,
  ⟨3, [.bool false, .int .i64 0, .int .i64 0], .struct [(0, 1, 4), (1, 1, 3), (2, 1, 3)]⟩,
  ⟨3, [.bool false, .int .i64 0, .int .i64 0], .struct [(0, 1, 4), (1, 1, 3), (2, 1, 3)]⟩,
  ⟨0, [], .other⟩,
  ⟨1, [.nilf], .func⟩,
  ⟨1, [.nilf], .func⟩,
  ⟨1, [.nilf], .func⟩,
  ⟨1, [.nilf], .func⟩,
  ⟨1, [.nilf], .func⟩,
  ⟨1, [.int .u64 0], .int .u64⟩,
  ⟨4, [.int .u64 0, .int .u64 0, .int .u64 0, .int .u64 0], .arr 4 65 1⟩,
  ⟨4, [.int .u64 0, .int .u64 0, .int .u64 0, .int .u64 0], .arr 4 65 1⟩,
  ⟨0, [], .other⟩,
  ⟨1, [.nilf], .func⟩,
  ⟨1, [.nilf], .func⟩,
  ⟨1, [.nilf], .func⟩,
  ⟨1, [.nilf], .func⟩,
  ⟨1, [.nilf], .func⟩,
  ⟨1, [.nilf], .func⟩,
  ⟨1, [.int .u64 0], .int .u64⟩,
  ⟨1, [.nilf], .func⟩,
  ⟨0, [], .other⟩,
  ⟨0, [], .other⟩,
  ⟨0, [], .other⟩,
  ⟨0, [], .other⟩,
  ⟨0, [], .other⟩,
  ⟨1, [.nilf], .func⟩,
  ⟨1, [.int .u32 0], .int .u32⟩,
  ⟨1, [.int .u8 0], .int .u8⟩,
  ⟨1, [.int .u8 0], .int .u8⟩,
  ⟨1, [.nilf], .func⟩,
  ⟨0, [], .other⟩,
  ⟨1, [.int .i32 0], .int .i32⟩,
  ⟨1, [.int .i32 0], .int .i32⟩,
  ⟨0, [], .other⟩,
  ⟨0, [], .other⟩,
  ⟨0, [], .other⟩]
def ti : TypeId → TI := tiOf table
theorem ti1 : ti 1 = ⟨1, [.nilf], .func⟩ := rfl
theorem ti2 : ti 2 = ⟨1, [.int .i64 0], .int .i64⟩ := rfl
theorem ti3 : ti 3 = ⟨1, [.int .i64 0], .int .i64⟩ := rfl
theorem ti4 : ti 4 = ⟨1, [.bool false], .bool⟩ := rfl
theorem ti5 : ti 5 = ⟨1, [.int .u8 0], .int .u8⟩ := rfl
theorem ti6 : ti 6 = ⟨1, [.int .u8 0], .int .u8⟩ := rfl
theorem ti7 : ti 7 = ⟨4, [.int .i64 0, .int .i64 0, .bool false, .int .u8 0], .struct [(0, 1, 2), (1, 1, 3), (2, 1, 4), (3, 1, 6)]⟩ := rfl
theorem ti8 : ti 8 = ⟨4, [.int .i64 0, .int .i64 0, .bool false, .int .u8 0], .struct [(0, 1, 2), (1, 1, 3), (2, 1, 4), (3, 1, 6)]⟩ := rfl
theorem ti9 : ti 9 = ⟨1, [.str []], .str⟩ := rfl
theorem ti10 : ti 10 = ⟨1, [.str []], .str⟩ := rfl
theorem ti11 : ti 11 = ⟨1, [.str []], .str⟩ := rfl
theorem ti12 : ti 12 = ⟨1, [.int .u64 0], .int .u64⟩ := rfl
theorem ti13 : ti 13 = ⟨2, [.str [], .int .u64 0], .struct [(0, 1, 9), (1, 1, 12)]⟩ := rfl
theorem ti14 : ti 14 = ⟨2, [.str [], .int .u64 0], .struct [(0, 1, 9), (1, 1, 12)]⟩ := rfl
theorem ti21 : ti 21 = ⟨1, [.int .i32 0], .int .i32⟩ := rfl
theorem ti22 : ti 22 = ⟨1, [.own false 4 []], .slice 28 4 64⟩ := rfl
theorem ti23 : ti 23 = ⟨1, [.nilf], .func⟩ := rfl
theorem ti24 : ti 24 = ⟨1, [.own false 3 []], .slice 26 3 48⟩ := rfl
theorem ti25 : ti 25 = ⟨3, [.bool false, .str [], .own false 3 []], .struct [(0, 1, 4), (1, 1, 9), (2, 1, 24)]⟩ := rfl
theorem ti26 : ti 26 = ⟨3, [.bool false, .str [], .own false 3 []], .struct [(0, 1, 4), (1, 1, 9), (2, 1, 24)]⟩ := rfl
theorem ti27 : ti 27 = ⟨4, [.bool false, .str [], .own false 3 [], .str []], .struct [(0, 3, 26), (3, 1, 9)]⟩ := rfl
theorem ti28 : ti 28 = ⟨4, [.bool false, .str [], .own false 3 [], .str []], .struct [(0, 3, 26), (3, 1, 9)]⟩ := rfl
theorem ti29 : ti 29 = ⟨1, [.int .i64 0], .int .i64⟩ := rfl
theorem ti31 : ti 31 = ⟨1, [.nilf], .func⟩ := rfl
theorem ti32 : ti 32 = ⟨1, [.nilf], .func⟩ := rfl
theorem ti34 : ti 34 = ⟨1, [.nilf], .func⟩ := rfl
theorem ti35 : ti 35 = ⟨1, [.nilf], .func⟩ := rfl
theorem ti36 : ti 36 = ⟨1, [.nilf], .func⟩ := rfl
theorem ti37 : ti 37 = ⟨1, [.nilf], .func⟩ := rfl
theorem ti39 : ti 39 = ⟨1, [.nilf], .func⟩ := rfl
theorem ti40 : ti 40 = ⟨1, [.nilf], .func⟩ := rfl
theorem ti42 : ti 42 = ⟨1, [.nilf], .func⟩ := rfl
theorem ti43 : ti 43 = ⟨1, [.nilf], .func⟩ := rfl
theorem ti44 : ti 44 = ⟨1, [.nilf], .func⟩ := rfl
theorem ti45 : ti 45 = ⟨1, [.own false 1 []], .slice 5 1 1⟩ := rfl
theorem ti46 : ti 46 = ⟨1, [.nilf], .func⟩ := rfl
theorem ti47 : ti 47 = ⟨1, [.nilf], .func⟩ := rfl
theorem ti48 : ti 48 = ⟨1, [.nilf], .func⟩ := rfl
theorem ti49 : ti 49 = ⟨1, [.nilf], .func⟩ := rfl
theorem ti51 : ti 51 = ⟨1, [.nilf], .func⟩ := rfl
theorem ti52 : ti 52 = ⟨1, [.nilf], .func⟩ := rfl
theorem ti53 : ti 53 = ⟨1, [.nilf], .func⟩ := rfl
theorem ti54 : ti 54 = ⟨1, [.nilf], .func⟩ := rfl
theorem ti55 : ti 55 = ⟨1, [.nilf], .func⟩ := rfl
theorem ti56 : ti 56 = ⟨1, [.nilf], .func⟩ := rfl
theorem ti57 : ti 57 = ⟨3, [.bool false, .int .i64 0, .int .i64 0], .struct [(0, 1, 4), (1, 1, 3), (2, 1, 3)]⟩ := rfl
theorem ti58 : ti 58 = ⟨3, [.bool false, .int .i64 0, .int .i64 0], .struct [(0, 1, 4), (1, 1, 3), (2, 1, 3)]⟩ := rfl
theorem ti60 : ti 60 = ⟨1, [.nilf], .func⟩ := rfl
theorem ti61 : ti 61 = ⟨1, [.nilf], .func⟩ := rfl
theorem ti62 : ti 62 = ⟨1, [.nilf], .func⟩ := rfl
theorem ti63 : ti 63 = ⟨1, [.nilf], .func⟩ := rfl
theorem ti64 : ti 64 = ⟨1, [.nilf], .func⟩ := rfl
theorem ti65 : ti 65 = ⟨1, [.int .u64 0], .int .u64⟩ := rfl
theorem ti66 : ti 66 = ⟨4, [.int .u64 0, .int .u64 0, .int .u64 0, .int .u64 0], .arr 4 65 1⟩ := rfl
theorem ti67 : ti 67 = ⟨4, [.int .u64 0, .int .u64 0, .int .u64 0, .int .u64 0], .arr 4 65 1⟩ := rfl
theorem ti69 : ti 69 = ⟨1, [.nilf], .func⟩ := rfl
theorem ti70 : ti 70 = ⟨1, [.nilf], .func⟩ := rfl
theorem ti71 : ti 71 = ⟨1, [.nilf], .func⟩ := rfl
theorem ti72 : ti 72 = ⟨1, [.nilf], .func⟩ := rfl
theorem ti73 : ti 73 = ⟨1, [.nilf], .func⟩ := rfl
theorem ti74 : ti 74 = ⟨1, [.nilf], .func⟩ := rfl
theorem ti75 : ti 75 = ⟨1, [.int .u64 0], .int .u64⟩ := rfl
theorem ti76 : ti 76 = ⟨1, [.nilf], .func⟩ := rfl
theorem ti82 : ti 82 = ⟨1, [.nilf], .func⟩ := rfl
theorem ti83 : ti 83 = ⟨1, [.int .u32 0], .int .u32⟩ := rfl
theorem ti84 : ti 84 = ⟨1, [.int .u8 0], .int .u8⟩ := rfl
theorem ti85 : ti 85 = ⟨1, [.int .u8 0], .int .u8⟩ := rfl
theorem ti86 : ti 86 = ⟨1, [.nilf], .func⟩ := rfl
theorem ti88 : ti 88 = ⟨1, [.int .i32 0], .int .i32⟩ := rfl
theorem ti89 : ti 89 = ⟨1, [.int .i32 0], .int .i32⟩ := rfl
theorem fits : fitAll Try.prog table = true := by kernel_rfl
/-- How a function is looked at. -/
noncomputable def cf (n : Nat) (live : List Nat) (ownp : FuncId → List Nat) : Cfg := { P := Try.prog, ti := ti, n := n, live := live, ownp := ownp }
theorem cf_ok (n : Nat) (live : List Nat) (ownp : FuncId → List Nat) : CfgOk (cf n live ownp) := ⟨by kernel_rfl, fun T h => fitAll_ok fits T h⟩
end Go.Proofs.Ytmngjlgeojbghaa.VA
end
section
namespace Go.Proofs.Ytmngjlgeojbghaa.VA
attribute [go_sem] cf ex_seq ex_block ex_region ex_ops_nil ex_ops_cons ex_ok ex_need
attribute [go_sem] ex_split_t ex_split_f ex_cond ex_br_t ex_br_f ex_skip ex_label ex_scope
attribute [go_sem] ex_exit ex_ret ex_keep ex_inBlock_n ex_inBlock_same ex_inBlock_e ex_inBlock_r ex_code_e
attribute [go_sem] ex_code_r ex_rounds_e ex_rounds_r ex_ord_fin ex_ord_quiet ex_ord_one ex_ord_unlock ex_ord_lone
attribute [go_sem] ex_ol ex_oq_t ex_oq_f ex_nil quietOp loneOp eltAddr quietLoad
attribute [go_sem] quietCallee convQ u8 moveR moveTup AV.isOwn asU8 stepR
attribute [go_sem] opR ASt.rd AV.seen look AV.const AV.constC AV.constG AV.constCs
attribute [go_sem] AV.constA AV.nilOf ASt.wr Cfg.may Cfg.round roundQ AV.dropR AV.dropA
attribute [go_sem] ASt.wrTo R.chk ASt.put ASt.putOwn ins strike consIf keepL
attribute [go_sem] keepV AV.isBot startSt argsAt allocR ASt.newVar AV.leansVar AV.leans
attribute [go_sem] AV.leansComp assignR ASt.take ASt.takeO ASt.at cellAt AV.compAt ASt.drop
attribute [go_sem] ASt.setCell ASt.setCellO ASt.dropComp ASt.turn binR ASt.wrO binInt binAgg
attribute [go_sem] isBoolK isIntK isSliceK isFuncK isInts AV.eqInts unVal buildGo
attribute [go_sem] partAt partIn placeOf buildEnd elemIn elemsGo elemsEnd bsR
attribute [go_sem] argOwnRef argOwn argImm argsGo callEnd ASt.wrResTo ASt.wrRes pickR
attribute [go_sem] boxR loadOne loadVar wrImm aggPart AV.isAggV loadElem loadElt
attribute [go_sem] loadR storeOwn AV.redir redir storeAl storeRef storeCells storeVar
attribute [go_sem] storePart storeRow storeElt storeR isU8 convBytes convCont convR
attribute [go_sem] makeR optI cutSl cutImm cutStr delV ASt.freeVar mkFnR
attribute [go_sem] capR capV cutArr cutR addrR structF fieldR idxSl
attribute [go_sem] idxAddrR idxR extrOne extrR lenCont lenR appSrc appRef
attribute [go_sem] appTo appR maxR fnOf appKind callFn callLen callApp
attribute [go_sem] callMax callR grdO grdT TI.zeroVal TK.isAgg TK.known Loc.plain
attribute [go_sem] ASt.keep ASt.imm ASt.immRef AV.isImm AV.flat AV.frz AV.frz0 AV.mark
attribute [go_sem] AV.elemsOf AV.elemsO ASt.cont markFrom putAt resOf resTup resAll
attribute [go_sem] resCons resOne resVar resCells resTmp decide_true decide_false Bool.and_true
attribute [go_sem] Bool.true_and Bool.and_false Bool.false_and Bool.and_self Bool.not_true Bool.not_false bq_t bq_f
attribute [go_sem] Bool.false_eq_true Bool.true_eq_false Nat.lt_irrefl Nat.zero_add Nat.add_zero Nat.mul_one Nat.zero_mul Nat.mul_zero
attribute [go_sem] Nat.zero_le Nat.le_refl Nat.beq List.length_cons List.length_nil Option.isNone_none Option.isNone_some Option.bind_some
attribute [go_sem] Option.bind_none Option.map_some Option.map_none List.getElem?_cons_zero List.getElem?_cons_succ List.getElem?_nil List.take_succ_cons List.take_zero
attribute [go_sem] List.take_nil List.drop_succ_cons List.drop_zero List.drop_nil List.map_cons List.map_nil List.cons_append List.nil_append
attribute [go_sem] List.append_nil List.set_cons_zero List.set_cons_succ List.headD_cons List.headD_nil List.tail_cons List.tail_nil List.contains_cons
attribute [go_sem] List.contains_nil Bool.or_false Bool.false_or Bool.or_true Bool.true_or BEq.rfl beq_self_eq_true List.replicate_zero
attribute [go_sem] List.replicate_succ List.isEmpty_nil List.size_toArray Array.isEmpty List.reverse_nil List.all_cons List.all_nil eq_self
attribute [go_sem] true_and and_true false_and and_false and_self not_true_eq_false not_false_eq_true Loc.tmp.injEq
attribute [go_sem] Loc.cell.injEq Loc.comp.injEq or_true true_or or_false false_or exists_const Option.isSome_some
attribute [go_sem] Option.isSome_none ne_eq Int.toNat_zero forall_const Nat.not_lt_zero Nat.lt_add_one ti1 ti2
attribute [go_sem] ti3 ti4 ti5 ti6 ti7 ti8 ti9 ti10
attribute [go_sem] ti11 ti12 ti13 ti14 ti21 ti22 ti23 ti24
attribute [go_sem] ti25 ti26 ti27 ti28 ti29 ti31 ti32 ti34
attribute [go_sem] ti35 ti36 ti37 ti39 ti40 ti42 ti43 ti44
attribute [go_sem] ti45 ti46 ti47 ti48 ti49 ti51 ti52 ti53
attribute [go_sem] ti54 ti55 ti56 ti57 ti58 ti60 ti61 ti62
attribute [go_sem] ti63 ti64 ti65 ti66 ti67 ti69 ti70 ti71
attribute [go_sem] ti72 ti73 ti74 ti75 ti76 ti82 ti83 ti84
attribute [go_sem] ti85 ti86 ti88 ti89
end Go.Proofs.Ytmngjlgeojbghaa.VA
end
section
namespace Go.Proofs.Ytmngjlgeojbghaa.VA

theorem wi64 {x : Int} (h1 : -9223372036854775808 ≤ x) (h2 : x ≤ 9223372036854775807) : IntKind.i64.wrap x = x := by
  rw [IntKind.wrap_i64]; omega
theorem wi64_nat (n : Nat) (h : n ≤ 9223372036854775806) : IntKind.i64.wrap ((n : Int) + 1) = ((n + 1 : Nat) : Int) := by
  rw [wi64 (by omega) (by omega)]; rfl
theorem plain1 {x : AV} (h : Plain x) : ∀ y, y ∈ [x] → Plain y := by
  intro y hy; rw [List.mem_singleton] at hy; rw [hy]; exact h
theorem plain2 {a b : AV} (h : Plain a) (k : Plain b) : ∀ y, y ∈ [a, b] → Plain y := by
  intro y hy; simp only [List.mem_cons, List.not_mem_nil, or_false] at hy; rcases hy with rfl | rfl <;> assumption
theorem plain3 {a b c : AV} (h : Plain a) (k : Plain b) (l : Plain c) : ∀ y, y ∈ [a, b, c] → Plain y := by
  intro y hy; simp only [List.mem_cons, List.not_mem_nil, or_false] at hy; rcases hy with rfl | rfl | rfl <;> assumption
def noCellB : List ResultVar → Bool
  | [] => true
  | .tmp _ :: r => noCellB r
  | .cell _ _ :: _ => false
theorem noCell {C : Cfg} {rs : List ResultVar} (h : noCellB rs = true) : ∀ t T, ResultVar.cell t T ∈ rs → (C.ti T).kind.known = true := by
  intro t T hm
  exfalso
  induction rs with
  | nil => cases hm
  | cons r rs ih =>
    cases r with
    | tmp t' =>
      rcases List.mem_cons.1 hm with e | e
      · cases e
      · exact ih h e
    | cell t' T' => cases h
def cellsB (ti : TypeId → TI) : List ResultVar → Bool
  | [] => true
  | .tmp _ :: r => cellsB ti r
  | .cell _ T :: r => (ti T).kind.known && cellsB ti r
theorem cellsOk {C : Cfg} {rs : List ResultVar} (h : cellsB C.ti rs = true) : ∀ t T, ResultVar.cell t T ∈ rs → (C.ti T).kind.known = true := by
  intro t T hm
  induction rs with
  | nil => cases hm
  | cons r rs ih =>
    cases r with
    | tmp t' =>
      rcases List.mem_cons.1 hm with e | e
      · cases e
      · exact ih h e
    | cell t' T' =>
      simp only [cellsB, Bool.and_eq_true] at h
      rcases List.mem_cons.1 hm with e | e
      · cases e; exact h.1
      · exact ih h.2 e
theorem finOne {C : Cfg} {σ : ASt} {rs : List ResultVar} {r : AV} (h : resOf C σ rs = some r) (hr : ∀ vs, r ≠ .tup vs) : BodyPost C rs r .ret σ := by
  show ResFin (resOf C σ rs) r
  rw [h]; exact .one hr hr (.dull (.refl r))
theorem finsRefl : ∀ rs : List AV, Fins rs rs
  | [] => .nil
  | x :: xs => .cons (.dull (.refl x)) (finsRefl xs)
theorem finTup {C : Cfg} {σ : ASt} {rs : List ResultVar} {vs : List AV} (h : resOf C σ rs = some (.tup vs)) : BodyPost C rs (.tup vs) .ret σ := by
  show ResFin (resOf C σ rs) _
  rw [h]; exact .tup (finsRefl vs)

theorem dsl (fr : Bool) (sz : Nat) (es : List AV) : Dull (.sl fr sz es) (.sl false sz es) := .sl fr sz es es rfl fun j x y h k => by
  rw [h] at k; cases k; exact .refl x
theorem take_snoc {α β : Type} (f : α → β) {l : List α} {i : Nat} {x : α} (h : l[i]? = some x) : (l.take i).map f ++ [f x] = (l.take (i + 1)).map f := by
  rw [List.take_add_one, h, List.map_append]; rfl
/-! What is known of a value of a type. -/
theorem ty_int {t : TypeId} {k : IntKind} (ht : (ti t).kind = .int k) {x : AV} (h : Ty ti t x) : ∃ n : Int, x = .int k n ∧ (Lit.int k n).wf = true := by
  cases h with
  | int n hk hw => rw [ht] at hk; cases hk; exact ⟨n, rfl, hw⟩
  | _ => simp_all
theorem ty_bool {t : TypeId} (ht : (ti t).kind = .bool) {x : AV} (h : Ty ti t x) : ∃ b : Bool, x = .bool b := by
  cases h with
  | bool b hk => exact ⟨b, rfl⟩
  | _ => simp_all
theorem ty_str {t : TypeId} (ht : (ti t).kind = .str) {x : AV} (h : Ty ti t x) : ∃ s : List UInt8, x = .str s ∧ s.length ≤ reachBytes := by
  cases h with
  | str s _ hs => exact ⟨s, rfl, hs⟩
  | _ => simp_all
theorem ty_slice {t e : TypeId} {esz eb : Nat} (ht : (ti t).kind = .slice e esz eb) {x : AV} (h : Ty ti t x) : ∃ es : List AV, x = .sl false esz es ∧ es.length * eb ≤ reachBytes ∧ ∀ y ∈ es, Ty ti e y := by
  cases h with
  | slice es hk hs hall => rw [ht] at hk; cases hk; exact ⟨es, rfl, hs, hall⟩
  | _ => simp_all
theorem ty_arr {t e : TypeId} {n esz : Nat} (ht : (ti t).kind = .arr n e esz) {x : AV} (h : Ty ti t x) : ∃ xs : List AV, x = .agg (xs.flatMap AV.flat) ∧ xs.length = n ∧ ∀ y ∈ xs, Ty ti e y := by
  cases h with
  | arr xs hk hn hall => rw [ht] at hk; cases hk; exact ⟨xs, rfl, hn, hall⟩
  | _ => simp_all
theorem ty_struct {t : TypeId} {fs : List (Nat × Nat × TypeId)} (ht : (ti t).kind = .struct fs) {x : AV} (h : Ty ti t x) :
    ∃ xs : List AV, x = .agg (xs.flatMap AV.flat) ∧ xs.length = fs.length ∧ ∀ (j : Nat) off sz ft y, fs[j]? = some (off, sz, ft) → xs[j]? = some y → Ty ti ft y := by
  cases h with
  | struct xs hk hn hall => rw [ht] at hk; cases hk; exact ⟨xs, rfl, hn, hall⟩
  | _ => simp_all
theorem ty_map {α : Type} {e : TypeId} {f : α → AV} {p : α → Prop} (h : ∀ y, Ty ti e y → ∃ a, y = f a ∧ p a) : ∀ es : List AV, (∀ y ∈ es, Ty ti e y) → ∃ l : List α, es = l.map f ∧ ∀ a ∈ l, p a
  | [], _ => ⟨[], rfl, fun a h => by cases h⟩
  | y :: es, hall => by
    obtain ⟨l, rfl, hl⟩ := ty_map h es fun x hx => hall x (List.mem_cons_of_mem _ hx)
    obtain ⟨a, rfl, ha⟩ := h y (hall y (by simp))
    exact ⟨a :: l, rfl, fun b hb => by
      rcases List.mem_cons.1 hb with rfl | hb
      · exact ha
      · exact hl b hb⟩

/-! Texts and marks in rows. -/
def strs (l : List (List UInt8)) : AV := .sl false 1 (l.map AV.str)
theorem strs_plain (l : List (List UInt8)) : Plain (strs l) := .sl 1 _ fun c hc => by
  obtain ⟨s, _, rfl⟩ := List.mem_map.1 hc
  exact .str s
def ints (k : IntKind) (l : List Int) : AV := .sl false 1 (l.map (AV.int k))
theorem ints_plain (k : IntKind) (l : List Int) : Plain (ints k l) := .sl 1 _ fun c hc => by
  obtain ⟨s, _, rfl⟩ := List.mem_map.1 hc
  exact .int k s
theorem ty_strs {t e : TypeId} {eb : Nat} (ht : (ti t).kind = .slice e 1 eb) (he : (ti e).kind = .str) {x : AV} (h : Ty ti t x) : ∃ l : List (List UInt8), x = strs l ∧ l.length * eb ≤ reachBytes ∧ ∀ s ∈ l, s.length ≤ reachBytes := by
  obtain ⟨es, rfl, hs, hall⟩ := ty_slice ht h
  obtain ⟨l, rfl, hl⟩ := ty_map (f := AV.str) (fun y hy => ty_str he hy) es hall
  exact ⟨l, rfl, by simpa using hs, hl⟩
theorem ty_ints {t e : TypeId} {eb : Nat} {k : IntKind} (ht : (ti t).kind = .slice e 1 eb) (he : (ti e).kind = .int k) {x : AV} (h : Ty ti t x) : ∃ l : List Int, x = ints k l ∧ l.length * eb ≤ reachBytes ∧ ∀ n ∈ l, (Lit.int k n).wf = true := by
  obtain ⟨es, rfl, hs, hall⟩ := ty_slice ht h
  obtain ⟨l, rfl, hl⟩ := ty_map (f := AV.int k) (fun y hy => ty_int he hy) es hall
  exact ⟨l, rfl, by simpa using hs, hl⟩
theorem dulls_get : ∀ {xs ys : List AV}, Dulls xs ys → xs.length = ys.length ∧ ∀ (j : Nat) x y, xs[j]? = some x → ys[j]? = some y → Dull x y
  | _, _, .nil => ⟨rfl, fun j x y h _ => by cases h⟩
  | _, _, .cons h t => by
    obtain ⟨e, f⟩ := dulls_get t
    refine ⟨by simp [e], fun j x y hx hy => ?_⟩
    cases j with
    | zero => simp only [List.getElem?_cons_zero, Option.some.injEq] at hx hy; subst hx; subst hy; exact h
    | succ j => simp only [List.getElem?_cons_succ] at hx hy; exact f j x y hx hy
theorem dulls_agg {xs ys : List AV} (h : Dulls xs ys) : Dull (.agg xs) (.agg ys) := .agg xs ys (dulls_get h).1 (dulls_get h).2
theorem finOneD {C : Cfg} {σ : ASt} {rs : List ResultVar} {r' r : AV} (h : resOf C σ rs = some r') (hd : Dull r' r) (hr' : ∀ vs, r' ≠ .tup vs) (hr : ∀ vs, r ≠ .tup vs) : BodyPost C rs r .ret σ := by
  show ResFin (resOf C σ rs) r
  rw [h]; exact .one hr' hr (.dull hd)
theorem finTupD {C : Cfg} {σ : ASt} {rs : List ResultVar} {vs' vs : List AV} (h : resOf C σ rs = some (.tup vs')) (hd : Fins vs' vs) : BodyPost C rs (.tup vs) .ret σ := by
  show ResFin (resOf C σ rs) _
  rw [h]; exact .tup hd
end Go.Proofs.Ytmngjlgeojbghaa.VA
end
section
namespace Go.Proofs.Ytmngjlgeojbghaa.VA
set_option maxRecDepth 10000
set_option maxHeartbeats 4000000

theorem wu64 {x : Int} (h1 : 0 ≤ x) (h2 : x < 18446744073709551616) : IntKind.u64.wrap x = x := by
  rw [IntKind.wrap_u64]; omega
theorem wu8 {x : Int} (h1 : 0 ≤ x) (h2 : x < 256) : IntKind.u8.wrap x = x := by
  rw [IntKind.wrap_u8]; omega
theorem ofInt_nat (n : Nat) : BitVec.ofInt 64 (n : Int) = BitVec.ofNat 64 n := by
  apply BitVec.eq_of_toNat_eq; simp
theorem u64_range (x : Int) : 0 ≤ IntKind.u64.wrap x ∧ IntKind.u64.wrap x < 18446744073709551616 := by
  rw [IntKind.wrap_u64]; omega
theorem asU8_map : ∀ s : List UInt8, asU8 (s.map u8) = some s
  | [] => rfl
  | b :: s => by
    have ih := asU8_map s
    have hb : b.toNat < 256 := b.toNat_lt
    simp only [List.map_cons, u8, asU8, ih, Option.map_some, Int.toNat_natCast] at *
    simp
theorem turned (b : UInt8) (x : Int) (h1 : 1 ≤ x) (h2 : x ≤ 255) : ∃ c : UInt8, b ≠ c ∧ AV.int .u8 (IntKind.u8.wrap (BitVec.ofInt IntKind.u8.bits (b.toNat : Int) ^^^ BitVec.ofInt IntKind.u8.bits x).toNat) = u8 c := by
  have hb : b.toNat < 256 := b.toNat_lt
  have e : IntKind.u8.bits = 8 := rfl
  rw [e]
  have hlt := (BitVec.ofInt 8 (b.toNat : Int) ^^^ BitVec.ofInt 8 x).isLt
  generalize hy : (BitVec.ofInt 8 (b.toNat : Int) ^^^ BitVec.ofInt 8 x) = y at hlt
  refine ⟨UInt8.ofNat y.toNat, fun e => ?_, ?_⟩
  · have e2 : BitVec.ofInt 8 (b.toNat : Int) = y := by
      apply BitVec.eq_of_toNat_eq
      rw [BitVec.toNat_ofInt, e, UInt8.toNat_ofNat']
      omega
    rw [e2] at hy
    have h3 := congrArg (y ^^^ ·) hy
    simp only [← BitVec.xor_assoc, BitVec.xor_self, BitVec.zero_xor] at h3
    have h4 := congrArg BitVec.toNat h3
    rw [BitVec.toNat_ofInt] at h4
    simp at h4
    omega
  · rw [wu8 (by omega) (by omega)]
    unfold u8
    congr 2
    rw [UInt8.toNat_ofNat']
    omega
theorem set_u8 (s : List UInt8) (k : Nat) (c : UInt8) : (s.map u8).set k (u8 c) = (s.set k c).map u8 := by rw [List.map_set]
def withinOf (i : Int) (n : Nat) : Nat := (i % 18446744073709551616).toNat % n
end Go.Proofs.Ytmngjlgeojbghaa.VA
end
section
namespace Go.Proofs.Ytmngjlgeojbghaa.VA
set_option maxRecDepth 10000
set_option maxHeartbeats 4000000

inductive ItemD where
  | mk (list : Bool) (text : List UInt8) (items : List ItemD)
def ItemD.list : ItemD → Bool
  | .mk l _ _ => l
def ItemD.text : ItemD → List UInt8
  | .mk _ t _ => t
def ItemD.items : ItemD → List ItemD
  | .mk _ _ xs => xs
mutual
def ItemD.av : ItemD → AV
  | .mk l t xs => .agg [.bool l, .str t, .sl false 3 (ItemD.avs xs)]
def ItemD.avs : List ItemD → List AV
  | [] => []
  | x :: xs => ItemD.av x :: ItemD.avs xs
end
theorem avs_map : ∀ xs : List ItemD, ItemD.avs xs = xs.map ItemD.av
  | [] => by rw [ItemD.avs]; rfl
  | x :: xs => by rw [ItemD.avs, avs_map xs]; rfl
def ItemD.cells (it : ItemD) : List AV := [.bool it.list, .str it.text, .sl false 3 (it.items.map ItemD.av)]
theorem ItemD.av_eq (it : ItemD) : it.av = .agg it.cells := by
  cases it with
  | mk l t xs => rw [ItemD.av, avs_map]; rfl
/-- How much an item holds. -/
def ItemD.wt : ItemD → Nat
  | .mk _ t xs => 1 + t.length + wts xs
where wts : List ItemD → Nat
  | [] => 0
  | x :: xs => x.wt + wts xs
abbrev wts := ItemD.wt.wts
theorem wt_eq (it : ItemD) : it.wt = 1 + it.text.length + wts it.items := by cases it; rw [ItemD.wt]; rfl
theorem wts_nil : wts [] = 0 := by rw [wts, ItemD.wt.wts]
theorem wts_cons (x : ItemD) (xs : List ItemD) : wts (x :: xs) = x.wt + wts xs := by rw [wts, ItemD.wt.wts]
theorem wt_pos (it : ItemD) : 1 ≤ it.wt := by rw [wt_eq]; omega
theorem wts_len : ∀ xs : List ItemD, xs.length ≤ wts xs
  | [] => Nat.zero_le _
  | x :: xs => by
    have := wts_len xs
    have := wt_pos x
    rw [wts_cons, List.length_cons]; omega
theorem wts_mem : ∀ {xs : List ItemD} {x : ItemD}, x ∈ xs → x.wt ≤ wts xs
  | y :: ys, x, h => by
    rw [wts_cons]
    rcases List.mem_cons.1 h with rfl | h
    · omega
    · have := wts_mem h; omega
theorem wts_append (xs ys : List ItemD) : wts (xs ++ ys) = wts xs + wts ys := by
  induction xs with
  | nil => rw [List.nil_append, wts_nil]; omega
  | cons x xs ih => rw [List.cons_append, wts_cons, wts_cons, ih]; omega
/-- Items of a size that may be. -/
def ItemD.ok (it : ItemD) : Prop := it.wt ≤ 16777216
theorem ItemD.ok.text {it : ItemD} (h : it.ok) : it.text.length ≤ 16777216 := by unfold ItemD.ok at h; rw [wt_eq] at h; omega
theorem ItemD.ok.num {it : ItemD} (h : it.ok) : it.items.length ≤ 16777216 := by
  unfold ItemD.ok at h; rw [wt_eq] at h
  have := wts_len it.items
  omega
theorem ItemD.ok.len {it : ItemD} (h : it.ok) : it.items.length * 48 ≤ reachBytes := by
  have := h.num
  unfold reachBytes; omega
theorem ItemD.ok.all {it : ItemD} (h : it.ok) : ∀ x, x ∈ it.items → x.ok := fun x hx => by
  unfold ItemD.ok at h ⊢
  rw [wt_eq] at h
  have := wts_mem hx
  omega
/-- What a machine holds: each text and each row alone is of a size that may be. -/
inductive WideI : ItemD → Prop
  | mk (l : Bool) (t : List UInt8) (xs : List ItemD) (ht : t.length ≤ reachBytes) (hx : xs.length ≤ reachBytes) (h : ∀ x, x ∈ xs → WideI x) : WideI (.mk l t xs)
theorem WideI.text {it : ItemD} (h : WideI it) : it.text.length ≤ reachBytes := by cases h with | mk l t xs ht hx h => exact ht
theorem WideI.num {it : ItemD} (h : WideI it) : it.items.length ≤ reachBytes := by cases h with | mk l t xs ht hx h => exact hx
theorem WideI.all {it : ItemD} (h : WideI it) : ∀ x, x ∈ it.items → WideI x := by cases h with | mk l t xs ht hx h => exact h
theorem item_lt {it x : ItemD} (h : x ∈ it.items) : SizeOf.sizeOf x < SizeOf.sizeOf it := by
  cases it with
  | mk l t xs =>
    have := List.sizeOf_lt_of_mem (show x ∈ xs from h)
    simp only [ItemD.mk.sizeOf_spec]
    omega
theorem ItemD.ok.wide (it : ItemD) (h : it.ok) : WideI it := by
  have h1 := h.text
  have h2 := h.num
  have h3 : ∀ x, x ∈ it.items → WideI x := fun x hx => ItemD.ok.wide x (h.all x hx)
  cases it with
  | mk l t xs => exact .mk l t xs (by unfold reachBytes; exact Nat.le_trans h1 (by decide)) (by unfold reachBytes; exact Nat.le_trans h2 (by decide)) h3
termination_by SizeOf.sizeOf it
decreasing_by exact item_lt hx
theorem ItemD.plain (it : ItemD) : Plain it.av := by
  rw [it.av_eq]
  refine .agg _ fun c hc => ?_
  simp only [ItemD.cells, List.mem_cons, List.not_mem_nil, or_false] at hc
  rcases hc with rfl | rfl | rfl
  · exact .bool _
  · exact .str _
  · refine .sl 3 _ fun d hd => ?_
    obtain ⟨x, hx, rfl⟩ := List.mem_map.1 hd
    exact x.plain
termination_by SizeOf.sizeOf it
decreasing_by exact item_lt hx
/-- A row within what is built: nil at first. -/
def repI (sz : Nat) : Nat → List AV → AV
  | 0, _ => .ext nilP
  | _ + 1, es => .own false sz es
theorem cellsI_len (it : ItemD) : it.cells.length = 3 := rfl
theorem c_copied (it : ItemD) (h : it.ok) : Contract Try.prog 29 [it.av] it.av := by
  have ih : ∀ x, x ∈ it.items → Contract Try.prog 29 [x.av] x.av := fun x hx => c_copied x (h.all x hx)
  have hl := h.len
  unfold reachBytes at hl
  refine contract_of (C := cf 27 [1, 2, 3, 5, 11, 12, 13, 14, 15] (fun _ => [])) (cf_ok _ _ _) (fn := Try.f29) Try.func29 (by kernel_rfl) rfl (by kernel_rfl) (by simp [cf]) (plain1 it.plain) (by decide) (cellsOk (by kernel_rfl)) ?_
  simp only [go_sem, seval, ItemD.av_eq, ItemD.cells]
  refine ex_iter [1, 2, 3, 11, 12, 13, 14] (fun i : Nat => ⟨[(1, .var 1 0), (2, .var 2 0), (3, .var 3 0), (11, .var 1 2), (12, .sl false 3 (it.items.map ItemD.av)), (13, .int .i64 it.items.length), (14, .int .i64 i)], [(1, it.cells), (2, [.bool false, .str [], .own false 3 []]), (3, [.bool it.list, .str it.text, repI 3 i ((it.items.take i).map ItemD.av)])], []⟩) (fun i => i ≤ it.items.length) (fun i => it.items.length - i) 0 ?_ ?_ ?_
  · simp only [ASt.keep, consIf, keepL, keepV, AV.isBot, List.contains_cons, List.contains_nil, Nat.reduceBEq, Bool.or_false, Bool.false_or, Bool.or_true, Bool.true_or, beq_self_eq_true, Bool.false_eq_true, ↓reduceIte, if_false, if_true]
    simp only [List.length_map]
    rfl
  · exact Nat.zero_le _
  · intro n i hi next
    simp only [go_sem, seval, List.length_map]
    refine ex_br (fun h => ?_) (fun h => ?_)
    · have hlt : i < it.items.length := by simpa using h
      obtain ⟨x, ex⟩ : ∃ x, it.items[i]? = some x := ⟨_, List.getElem?_eq_getElem hlt⟩
      have hx := ih x (List.mem_of_getElem? ex)
      have hs : (it.items.take i).map ItemD.av ++ [.agg x.cells] = (it.items.take (i + 1)).map ItemD.av := by rw [← ItemD.av_eq]; exact take_snoc ItemD.av ex
      rw [ItemD.av_eq] at hx
      simp only [go_sem, seval, List.length_map, List.getElem?_map, ex, Int.toNat_natCast, ItemD.av_eq, ItemD.cells]
      repeat with_reducible refine And.intro (by first | omega | (simp only [List.length_cons, List.length_append, List.length_nil, List.length_map, List.length_take, List.length_drop, List.length_set]; omega)) ?_
      try simp only [go_sem, seval, ItemD.cells]
      refine ex_draw [7] [] (.quiet 0 (.quiet 1 (.quiet 2 (.one 3 (.one 4 (.one 5 (.quiet 6 (.unlock (.one 7 (.fin)))))))))) (by kernel_rfl) ?_
      cases i with
      | zero =>
        simp only [go_sem, seval, repI]
        refine ex_call (by exact hx) ?_
        simp only [go_sem, seval, cellsI_len, repI]
        repeat with_reducible refine And.intro (by first | omega | (simp only [List.length_cons, List.length_append, List.length_nil, List.length_map, List.length_take, List.length_drop, List.length_set]; omega)) ?_
        refine next (0 + 1) _ (by omega) (by omega) ?_
        rw [← wi64_nat 0 (by omega), ← hs]
        simp only [ASt.keep, consIf, keepL, keepV, AV.isBot, List.contains_cons, List.contains_nil, Nat.reduceBEq, Bool.or_false, Bool.false_or, Bool.or_true, Bool.true_or, beq_self_eq_true, Bool.false_eq_true, ↓reduceIte, if_false, if_true]
        rfl
      | succ i =>
        simp only [go_sem, seval, repI]
        refine ex_call (by exact hx) ?_
        simp only [go_sem, seval, cellsI_len, repI, List.length_map]
        repeat with_reducible refine And.intro (by first | omega | (simp only [List.length_cons, List.length_append, List.length_nil, List.length_map, List.length_take, List.length_drop, List.length_set]; omega)) ?_
        refine next (i + 1 + 1) _ (by omega) (by omega) ?_
        rw [← wi64_nat (i + 1) (by omega), ← hs]
        simp only [ASt.keep, consIf, keepL, keepV, AV.isBot, List.contains_cons, List.contains_nil, Nat.reduceBEq, Bool.or_false, Bool.false_or, Bool.or_true, Bool.true_or, beq_self_eq_true, Bool.false_eq_true, ↓reduceIte, if_false, if_true]
        rfl
    · have hge : i = it.items.length := by simp at h; omega
      subst hge
      simp only [go_sem, seval, List.take_length, ItemD.cells]
      cases hn : it.items with
      | nil =>
        simp only [go_sem, seval, repI]
        refine finOneD (r' := .agg [.bool it.list, .str it.text, .ext nilP]) ?_ (dulls_agg (.cons (.refl _) (.cons (.refl _) (.cons (.nil _ _) .nil)))) (fun _ e => by cases e) (fun _ e => by cases e)
        show resOf _ _ [.cell 2 26] = _
        simp only [go_sem, seval]
      | cons y ys =>
        simp only [go_sem, seval, repI]
        refine finOneD (r' := .agg [.bool it.list, .str it.text, .sl true 3 (ItemD.av y :: ys.map ItemD.av)]) ?_ (dulls_agg (.cons (.refl _) (.cons (.refl _) (.cons (dsl _ _ _) .nil)))) (fun _ e => by cases e) (fun _ e => by cases e)
        show resOf _ _ [.cell 2 26] = _
        simp only [go_sem, seval]
termination_by SizeOf.sizeOf it
decreasing_by exact item_lt hx
/-- What a typed value of the type Item is. -/
theorem bulks_map {α : Type} (f : α → AV) (g : α → Nat) (h : ∀ a, g a ≤ (f a).bulk) : ∀ l : List α, (l.map g).sum ≤ AV.bulks (l.map f)
  | [] => by simp [AV.bulks]
  | a :: l => by
    rw [List.map_cons, List.map_cons, List.sum_cons, AV.bulks]
    have := bulks_map f g h l
    have := h a
    omega
theorem bulks_mem : ∀ {xs : List AV} {x : AV}, x ∈ xs → x.bulk ≤ AV.bulks xs
  | y :: ys, x, h => by
    rw [AV.bulks]
    rcases List.mem_cons.1 h with rfl | h
    · omega
    · have := bulks_mem h; omega
theorem wt_bulk (it : ItemD) : it.wt ≤ it.av.bulk := by
  rw [wt_eq, it.av_eq, ItemD.cells]
  simp only [AV.bulk, AV.bulks]
  have key : ∀ xs : List ItemD, (∀ x ∈ xs, x.wt ≤ x.av.bulk) → wts xs ≤ AV.bulks (xs.map ItemD.av) := by
    intro xs
    induction xs with
    | nil => intro _; rw [wts_nil]; omega
    | cons x xs ih =>
      intro h
      rw [wts_cons, List.map_cons, AV.bulks]
      have := ih fun y hy => h y (List.mem_cons_of_mem _ hy)
      have := h x (by simp)
      omega
  have := key it.items fun x hx => wt_bulk x
  omega
termination_by SizeOf.sizeOf it
decreasing_by exact item_lt hx
theorem map_of_all {α : Type} {f : α → AV} : ∀ es : List AV, (∀ y ∈ es, ∃ a, y = f a) → ∃ l : List α, es = l.map f
  | [], _ => ⟨[], rfl⟩
  | y :: es, h => by
    obtain ⟨a, rfl⟩ := h y (by simp)
    obtain ⟨l, rfl⟩ := map_of_all es fun x hx => h x (List.mem_cons_of_mem _ hx)
    exact ⟨a :: l, rfl⟩
theorem ty_item : ∀ (n : Nat) {x : AV}, Ty ti 26 x → x.bulk ≤ n → ∃ it : ItemD, x = it.av := by
  intro n
  induction n with
  | zero =>
    intro x h hb
    cases x <;> simp [AV.bulk] at hb
  | succ n ih =>
    intro x h hb
    obtain ⟨xs, rfl, hl, hf⟩ := ty_struct rfl h
    have hl : xs.length = 3 := hl
    match xs, hl with
    | [a, b, c], _ =>
      have ha := hf 0 _ _ _ _ rfl rfl
      have hb' := hf 1 _ _ _ _ rfl rfl
      have hc := hf 2 _ _ _ _ rfl rfl
      obtain ⟨l, rfl⟩ := ty_bool rfl ha
      obtain ⟨t, rfl, _⟩ := ty_str rfl hb'
      obtain ⟨es, rfl, _, hes⟩ := ty_slice rfl hc
      have hb2 : AV.bulks es ≤ n := by
        simp only [List.flatMap_cons, List.flatMap_nil, AV.flat, AV.bulk, AV.bulks, List.cons_append, List.nil_append] at hb
        omega
      obtain ⟨is, rfl⟩ := map_of_all (f := ItemD.av) es fun y hy => ih (hes y hy) (Nat.le_trans (bulks_mem hy) hb2)
      refine ⟨.mk l t is, ?_⟩
      rw [ItemD.av, avs_map]
      rfl
end Go.Proofs.Ytmngjlgeojbghaa.VA
end
section
namespace Go.Proofs.Ytmngjlgeojbghaa.VA
set_option maxRecDepth 10000
set_option maxHeartbeats 4000000

/-- How much an item weighs, as the laws reckon. -/
def wtOf : ItemD → Nat
  | .mk _ t xs => wtGo (1 + t.length) xs
where wtGo : Nat → List ItemD → Nat
  | n, [] => n
  | n, x :: xs => if n < 1048576 then wtGo (n + wtOf x) xs else n
theorem wtOf_eq (it : ItemD) : wtOf it = wtOf.wtGo (1 + it.text.length) it.items := by cases it; rw [wtOf]; rfl
theorem wtGo_nil (n : Nat) : wtOf.wtGo n [] = n := by rw [wtOf.wtGo]
theorem wtGo_cons (n : Nat) (x : ItemD) (xs : List ItemD) : wtOf.wtGo n (x :: xs) = if n < 1048576 then wtOf.wtGo (n + wtOf x) xs else n := by rw [wtOf.wtGo]
theorem wtGo_end {n : Nat} {xs : List ItemD} (h : ¬ n < 1048576) : wtOf.wtGo n xs = n := by
  cases xs with
  | nil => exact wtGo_nil n
  | cons x xs => rw [wtGo_cons, if_neg h]
theorem wtGo_drop {n : Nat} {xs : List ItemD} {i : Nat} {x : ItemD} (e : xs[i]? = some x) (h : n < 1048576) : wtOf.wtGo n (xs.drop i) = wtOf.wtGo (n + wtOf x) (xs.drop (i + 1)) := by
  obtain ⟨hi, rfl⟩ := List.getElem?_eq_some_iff.1 e
  rw [← List.getElem_cons_drop hi, wtGo_cons, if_pos h]
theorem wtGo_le {xs : List ItemD} (h : ∀ x ∈ xs, wtOf x ≤ x.wt) : ∀ n, n ≤ wtOf.wtGo n xs ∧ wtOf.wtGo n xs ≤ n + wts xs := by
  induction xs with
  | nil => intro n; rw [wtGo_nil, wts_nil]; omega
  | cons x xs ih =>
    intro n
    rw [wtGo_cons, wts_cons]
    have := ih (fun y hy => h y (List.mem_cons_of_mem _ hy)) (n + wtOf x)
    have := h x (by simp)
    split <;> omega
theorem wtOf_le (it : ItemD) : wtOf it ≤ it.wt := by
  rw [wtOf_eq, wt_eq]
  exact ((wtGo_le fun x hx => wtOf_le x) _).2
termination_by SizeOf.sizeOf it
decreasing_by exact item_lt hx
theorem wtGo_full {xs : List ItemD} (h : ∀ x ∈ xs, wtOf x < 1048576 → wtOf x = x.wt) : ∀ n, wtOf.wtGo n xs < 1048576 → wtOf.wtGo n xs = n + wts xs := by
  induction xs with
  | nil => intro n _; rw [wtGo_nil, wts_nil]; rfl
  | cons x xs ih =>
    intro n hn
    rw [wtGo_cons] at hn ⊢
    rw [wts_cons]
    split at hn
    · rename_i h1
      rw [if_pos h1]
      have h2 := (wtGo_le (xs := xs) (fun y _ => wtOf_le y) (n + wtOf x)).1
      rw [ih (fun y hy => h y (List.mem_cons_of_mem _ hy)) _ hn, h x (by simp) (by omega)]
      omega
    · omega
theorem wtOf_full (it : ItemD) (h : wtOf it < 1048576) : wtOf it = it.wt := by
  rw [wtOf_eq] at h ⊢
  rw [wt_eq]
  exact wtGo_full (fun x hx hlt => wtOf_full x hlt) _ h
termination_by SizeOf.sizeOf it
decreasing_by exact item_lt hx
/-- How deep an item is. -/
def dpOf : ItemD → Nat
  | .mk _ _ xs => dpGo 0 xs + 1
where dpGo : Nat → List ItemD → Nat
  | n, [] => n
  | n, x :: xs => dpGo (max n (dpOf x)) xs
theorem dpOf_eq (it : ItemD) : dpOf it = dpOf.dpGo 0 it.items + 1 := by cases it; rw [dpOf]; rfl
theorem dpGo_nil (n : Nat) : dpOf.dpGo n [] = n := by rw [dpOf.dpGo]
theorem dpGo_cons (n : Nat) (x : ItemD) (xs : List ItemD) : dpOf.dpGo n (x :: xs) = dpOf.dpGo (max n (dpOf x)) xs := by rw [dpOf.dpGo]
theorem dpGo_drop {n : Nat} {xs : List ItemD} {i : Nat} {x : ItemD} (e : xs[i]? = some x) : dpOf.dpGo n (xs.drop i) = dpOf.dpGo (max n (dpOf x)) (xs.drop (i + 1)) := by
  obtain ⟨hi, rfl⟩ := List.getElem?_eq_some_iff.1 e
  rw [← List.getElem_cons_drop hi, dpGo_cons]
theorem dpGo_le {xs : List ItemD} {m : Nat} (h : ∀ x ∈ xs, dpOf x ≤ m) : ∀ n, n ≤ m → dpOf.dpGo n xs ≤ m := by
  induction xs with
  | nil => intro n hn; rw [dpGo_nil]; exact hn
  | cons x xs ih =>
    intro n hn
    rw [dpGo_cons]
    have := h x (by simp)
    exact ih (fun y hy => h y (List.mem_cons_of_mem _ hy)) _ (by omega)
theorem dpOf_le (it : ItemD) : dpOf it ≤ it.wt := by
  rw [dpOf_eq, wt_eq]
  have := dpGo_le (m := wts it.items) (fun x hx => Nat.le_trans (dpOf_le x) (wts_mem hx)) 0 (Nat.zero_le _)
  omega
termination_by SizeOf.sizeOf it
decreasing_by exact item_lt hx

theorem c_ItemWeight (it : ItemD) (h : it.ok) : Contract Try.prog 15 [it.av] (.int .i64 (wtOf it)) := by
  have ih : ∀ x, x ∈ it.items → Contract Try.prog 15 [x.av] (.int .i64 (wtOf x)) := fun x hx => c_ItemWeight x (h.all x hx)
  have ht := h.text
  have hn := h.num
  refine contract_of (C := cf 29 [1, 2, 3, 4, 17] (fun _ => [])) (cf_ok _ _ _) (fn := Try.f15) Try.func15 (by kernel_rfl) rfl (by kernel_rfl) (by simp [cf]) (plain1 it.plain) (by decide) (noCell (by kernel_rfl)) ?_
  have w1 : IntKind.i64.wrap (1 + (it.text.length : Int)) = ((1 + it.text.length : Nat) : Int) := by rw [wi64 (by omega) (by omega)]; omega
  simp only [go_sem, ↓reduceIte, Nat.reduceLT, Nat.reduceLeDiff, Nat.reduceAdd, Nat.reduceSub, Nat.reduceMul, Nat.reduceEqDiff, Nat.reduceBEq, Nat.reduceMod, Nat.reduceDiv, Int.reduceToNat, reduceCtorEq, Int.reduceLT, Int.reduceLE, Int.reduceGT, Int.reduceGE, Int.reduceAdd, Int.reduceSub, Int.reduceMul, Int.reduceNeg, Int.reduceEq, Int.reduceNe, Int.reduceBNe, Int.reduceBEq, Int.reduceDiv, ItemD.av_eq, ItemD.cells, w1]
  refine ex_iter [1, 3, 4] (fun q : Nat × Nat => ⟨[(1, .var 1 0), (3, .int .i64 (q.2 : Nat)), (4, .int .i64 (q.1 : Nat))], [(1, it.cells)], []⟩)
    (fun q => q.1 ≤ it.items.length ∧ q.2 ≤ 33554432 ∧ wtOf.wtGo q.2 (it.items.drop q.1) = wtOf it) (fun q => it.items.length - q.1) (0, 1 + it.text.length) ?_ ?_ ?_
  · simp only [ASt.keep, consIf, keepL, keepV, AV.isBot, List.contains_cons, List.contains_nil, Nat.reduceBEq, Bool.or_false, Bool.false_or, Bool.or_true, Bool.true_or, beq_self_eq_true, Bool.false_eq_true, ↓reduceIte, if_false, if_true]
    rfl
  · exact ⟨Nat.zero_le _, by simp only; omega, (wtOf_eq it).symm⟩
  · rintro r ⟨i, n⟩ hinv next
    obtain ⟨hi, hn2, hw⟩ : i ≤ it.items.length ∧ n ≤ 33554432 ∧ wtOf.wtGo n (it.items.drop i) = wtOf it := hinv
    simp only [go_sem, ↓reduceIte, Nat.reduceLT, Nat.reduceLeDiff, Nat.reduceAdd, Nat.reduceSub, Nat.reduceMul, Nat.reduceEqDiff, Nat.reduceBEq, Nat.reduceMod, Nat.reduceDiv, Int.reduceToNat, reduceCtorEq, Int.reduceLT, Int.reduceLE, Int.reduceGT, Int.reduceGE, Int.reduceAdd, Int.reduceSub, Int.reduceMul, Int.reduceNeg, Int.reduceEq, Int.reduceNe, Int.reduceBNe, Int.reduceBEq, Int.reduceDiv, List.length_map, ItemD.cells]
    refine ex_joinB 17 (decide (i < it.items.length) && decide (n < 1048576)) ?_ ?_
    · repeat' (first | (refine ex_split (fun h => ?_) (fun h => ?_)) | (with_reducible refine And.intro (by omega) ?_) |
        (simp only [go_sem, ↓reduceIte, Nat.reduceLT, Nat.reduceLeDiff, Nat.reduceAdd, Nat.reduceSub, Nat.reduceMul, Nat.reduceEqDiff, Nat.reduceBEq, Nat.reduceMod, Nat.reduceDiv, Int.reduceToNat, reduceCtorEq, Int.reduceLT, Int.reduceLE, Int.reduceGT, Int.reduceGE, Int.reduceAdd, Int.reduceSub, Int.reduceMul, Int.reduceNeg, Int.reduceEq, Int.reduceNe, Int.reduceBNe, Int.reduceBEq, Int.reduceDiv, List.length_map, ItemD.cells]))
      all_goals (try simp only [ASt.mk.injEq, List.cons.injEq, Prod.mk.injEq, AV.bool.injEq, true_and, and_true, eq_self])
      all_goals first | (simp_all; done) | (simp_all; omega) | (rw [Bool.eq_iff_iff]; simp only [List.length_map, Bool.or_eq_true, Bool.and_eq_true, Bool.not_eq_true', Bool.not_eq_false', decide_eq_true_eq, decide_eq_false_iff_not, bne_iff_ne, beq_iff_eq, ne_eq, true_iff, iff_true, false_iff, iff_false, Bool.false_eq_true, not_false_eq_true, not_true_eq_false] at *; omega)
    simp only [go_sem, ↓reduceIte, Nat.reduceLT, Nat.reduceLeDiff, Nat.reduceAdd, Nat.reduceSub, Nat.reduceMul, Nat.reduceEqDiff, Nat.reduceBEq, Nat.reduceMod, Nat.reduceDiv, Int.reduceToNat, reduceCtorEq, Int.reduceLT, Int.reduceLE, Int.reduceGT, Int.reduceGE, Int.reduceAdd, Int.reduceSub, Int.reduceMul, Int.reduceNeg, Int.reduceEq, Int.reduceNe, Int.reduceBNe, Int.reduceBEq, Int.reduceDiv]
    refine ex_br (fun hc => ?_) (fun hc => ?_)
    · have hlt : i < it.items.length ∧ n < 1048576 := by simpa using hc
      obtain ⟨x, ex⟩ : ∃ x, it.items[i]? = some x := ⟨_, List.getElem?_eq_getElem hlt.1⟩
      have hm := List.mem_of_getElem? ex
      have hx := ih x hm
      have hb := wtOf_le x
      have hb2 := h.all x hm
      unfold ItemD.ok at hb2
      rw [ItemD.av_eq] at hx
      have w3 : IntKind.i64.wrap ((n : Int) + (wtOf x : Int)) = ((n + wtOf x : Nat) : Int) := by rw [wi64 (by omega) (by omega)]; omega
      simp only [go_sem, ↓reduceIte, Nat.reduceLT, Nat.reduceLeDiff, Nat.reduceAdd, Nat.reduceSub, Nat.reduceMul, Nat.reduceEqDiff, Nat.reduceBEq, Nat.reduceMod, Nat.reduceDiv, Int.reduceToNat, reduceCtorEq, Int.reduceLT, Int.reduceLE, Int.reduceGT, Int.reduceGE, Int.reduceAdd, Int.reduceSub, Int.reduceMul, Int.reduceNeg, Int.reduceEq, Int.reduceNe, Int.reduceBNe, Int.reduceBEq, Int.reduceDiv, List.length_map, List.getElem?_map, ex, Int.toNat_natCast, ItemD.av_eq, ItemD.cells]
      repeat with_reducible refine And.intro (by first | omega | (simp only [List.length_cons, List.length_append, List.length_nil, List.length_map, List.length_take, List.length_drop, List.length_set]; omega)) ?_
      try simp only [go_sem, ↓reduceIte, Nat.reduceLT, Nat.reduceLeDiff, Nat.reduceAdd, Nat.reduceSub, Nat.reduceMul, Nat.reduceEqDiff, Nat.reduceBEq, Nat.reduceMod, Nat.reduceDiv, Int.reduceToNat, reduceCtorEq, Int.reduceLT, Int.reduceLE, Int.reduceGT, Int.reduceGE, Int.reduceAdd, Int.reduceSub, Int.reduceMul, Int.reduceNeg, Int.reduceEq, Int.reduceNe, Int.reduceBNe, Int.reduceBEq, Int.reduceDiv, ItemD.cells]
      refine ex_call (by exact hx) ?_
      simp only [go_sem, ↓reduceIte, Nat.reduceLT, Nat.reduceLeDiff, Nat.reduceAdd, Nat.reduceSub, Nat.reduceMul, Nat.reduceEqDiff, Nat.reduceBEq, Nat.reduceMod, Nat.reduceDiv, Int.reduceToNat, reduceCtorEq, Int.reduceLT, Int.reduceLE, Int.reduceGT, Int.reduceGE, Int.reduceAdd, Int.reduceSub, Int.reduceMul, Int.reduceNeg, Int.reduceEq, Int.reduceNe, Int.reduceBNe, Int.reduceBEq, Int.reduceDiv, w3]
      refine next (i + 1, n + wtOf x) _ ⟨by simp only; omega, by simp only; omega, by simp only; rw [← wtGo_drop ex hlt.2]; exact hw⟩ (by simp only; omega) ?_
      simp only
      rw [← wi64_nat i (by omega)]
      simp only [ASt.keep, consIf, keepL, keepV, AV.isBot, List.contains_cons, List.contains_nil, Nat.reduceBEq, Bool.or_false, Bool.false_or, Bool.or_true, Bool.true_or, beq_self_eq_true, Bool.false_eq_true, ↓reduceIte, if_false, if_true]
      rfl
    · have e : wtOf it = n := by
        rw [← hw]
        by_cases h1 : n < 1048576
        · have : i = it.items.length := by simp [h1] at hc; omega
          rw [this, List.drop_length]; exact wtGo_nil n
        · exact wtGo_end h1
      simp only [go_sem, ↓reduceIte, Nat.reduceLT, Nat.reduceLeDiff, Nat.reduceAdd, Nat.reduceSub, Nat.reduceMul, Nat.reduceEqDiff, Nat.reduceBEq, Nat.reduceMod, Nat.reduceDiv, Int.reduceToNat, reduceCtorEq, Int.reduceLT, Int.reduceLE, Int.reduceGT, Int.reduceGE, Int.reduceAdd, Int.reduceSub, Int.reduceMul, Int.reduceNeg, Int.reduceEq, Int.reduceNe, Int.reduceBNe, Int.reduceBEq, Int.reduceDiv, e]
      refine finOne ?_ (fun _ e => by cases e)
      show resOf _ _ [.tmp 2] = _
      simp only [go_sem, ↓reduceIte, Nat.reduceLT, Nat.reduceLeDiff, Nat.reduceAdd, Nat.reduceSub, Nat.reduceMul, Nat.reduceEqDiff, Nat.reduceBEq, Nat.reduceMod, Nat.reduceDiv, Int.reduceToNat, reduceCtorEq, Int.reduceLT, Int.reduceLE, Int.reduceGT, Int.reduceGE, Int.reduceAdd, Int.reduceSub, Int.reduceMul, Int.reduceNeg, Int.reduceEq, Int.reduceNe, Int.reduceBNe, Int.reduceBEq, Int.reduceDiv]
termination_by SizeOf.sizeOf it
decreasing_by exact item_lt hx
theorem max_nat (a b : Nat) : (if (b : Int) > (a : Int) then (b : Int) else (a : Int)) = ((max a b : Nat) : Int) := by
  split <;> omega
theorem c_Deep (it : ItemD) (h : it.ok) : Contract Try.prog 16 [it.av] (.int .i64 (dpOf it)) := by
  have ih : ∀ x, x ∈ it.items → Contract Try.prog 16 [x.av] (.int .i64 (dpOf x)) := fun x hx => c_Deep x (h.all x hx)
  have hn := h.num
  refine contract_of (C := cf 22 [1, 2, 3, 4, 9] (fun _ => [])) (cf_ok _ _ _) (fn := Try.f16) Try.func16 (by kernel_rfl) rfl (by kernel_rfl) (by simp [cf]) (plain1 it.plain) (by decide) (noCell (by kernel_rfl)) ?_
  simp only [go_sem, ↓reduceIte, Nat.reduceLT, Nat.reduceLeDiff, Nat.reduceAdd, Nat.reduceSub, Nat.reduceMul, Nat.reduceEqDiff, Nat.reduceBEq, Nat.reduceMod, Nat.reduceDiv, Int.reduceToNat, reduceCtorEq, Int.reduceLT, Int.reduceLE, Int.reduceGT, Int.reduceGE, Int.reduceAdd, Int.reduceSub, Int.reduceMul, Int.reduceNeg, Int.reduceEq, Int.reduceNe, Int.reduceBNe, Int.reduceBEq, Int.reduceDiv, ItemD.av_eq, ItemD.cells]
  refine ex_iter [1, 3, 4] (fun q : Nat × Nat => ⟨[(1, .var 1 0), (3, .int .i64 (q.2 : Nat)), (4, .int .i64 (q.1 : Nat))], [(1, it.cells)], []⟩)
    (fun q => q.1 ≤ it.items.length ∧ q.2 ≤ 16777216 ∧ dpOf.dpGo q.2 (it.items.drop q.1) + 1 = dpOf it) (fun q => it.items.length - q.1) (0, 0) ?_ ?_ ?_
  · simp only [ASt.keep, consIf, keepL, keepV, AV.isBot, List.contains_cons, List.contains_nil, Nat.reduceBEq, Bool.or_false, Bool.false_or, Bool.or_true, Bool.true_or, beq_self_eq_true, Bool.false_eq_true, ↓reduceIte, if_false, if_true]
    rfl
  · exact ⟨Nat.zero_le _, by simp only; omega, (dpOf_eq it).symm⟩
  · rintro r ⟨i, n⟩ hinv next
    obtain ⟨hi, hn2, hw⟩ : i ≤ it.items.length ∧ n ≤ 16777216 ∧ dpOf.dpGo n (it.items.drop i) + 1 = dpOf it := hinv
    simp only [go_sem, ↓reduceIte, Nat.reduceLT, Nat.reduceLeDiff, Nat.reduceAdd, Nat.reduceSub, Nat.reduceMul, Nat.reduceEqDiff, Nat.reduceBEq, Nat.reduceMod, Nat.reduceDiv, Int.reduceToNat, reduceCtorEq, Int.reduceLT, Int.reduceLE, Int.reduceGT, Int.reduceGE, Int.reduceAdd, Int.reduceSub, Int.reduceMul, Int.reduceNeg, Int.reduceEq, Int.reduceNe, Int.reduceBNe, Int.reduceBEq, Int.reduceDiv, List.length_map, ItemD.cells]
    refine ex_br (fun hc => ?_) (fun hc => ?_)
    · have hlt : i < it.items.length := by simpa using hc
      obtain ⟨x, ex⟩ : ∃ x, it.items[i]? = some x := ⟨_, List.getElem?_eq_getElem hlt⟩
      have hm := List.mem_of_getElem? ex
      have hx := ih x hm
      have hb := dpOf_le x
      have hb2 := h.all x hm
      unfold ItemD.ok at hb2
      rw [ItemD.av_eq] at hx
      simp only [go_sem, ↓reduceIte, Nat.reduceLT, Nat.reduceLeDiff, Nat.reduceAdd, Nat.reduceSub, Nat.reduceMul, Nat.reduceEqDiff, Nat.reduceBEq, Nat.reduceMod, Nat.reduceDiv, Int.reduceToNat, reduceCtorEq, Int.reduceLT, Int.reduceLE, Int.reduceGT, Int.reduceGE, Int.reduceAdd, Int.reduceSub, Int.reduceMul, Int.reduceNeg, Int.reduceEq, Int.reduceNe, Int.reduceBNe, Int.reduceBEq, Int.reduceDiv, List.length_map, List.getElem?_map, ex, Int.toNat_natCast, ItemD.av_eq, ItemD.cells]
      repeat with_reducible refine And.intro (by first | omega | (simp only [List.length_cons, List.length_append, List.length_nil, List.length_map, List.length_take, List.length_drop, List.length_set]; omega)) ?_
      try simp only [go_sem, ↓reduceIte, Nat.reduceLT, Nat.reduceLeDiff, Nat.reduceAdd, Nat.reduceSub, Nat.reduceMul, Nat.reduceEqDiff, Nat.reduceBEq, Nat.reduceMod, Nat.reduceDiv, Int.reduceToNat, reduceCtorEq, Int.reduceLT, Int.reduceLE, Int.reduceGT, Int.reduceGE, Int.reduceAdd, Int.reduceSub, Int.reduceMul, Int.reduceNeg, Int.reduceEq, Int.reduceNe, Int.reduceBNe, Int.reduceBEq, Int.reduceDiv, ItemD.cells]
      refine ex_call (by exact hx) ?_
      simp only [go_sem, ↓reduceIte, Nat.reduceLT, Nat.reduceLeDiff, Nat.reduceAdd, Nat.reduceSub, Nat.reduceMul, Nat.reduceEqDiff, Nat.reduceBEq, Nat.reduceMod, Nat.reduceDiv, Int.reduceToNat, reduceCtorEq, Int.reduceLT, Int.reduceLE, Int.reduceGT, Int.reduceGE, Int.reduceAdd, Int.reduceSub, Int.reduceMul, Int.reduceNeg, Int.reduceEq, Int.reduceNe, Int.reduceBNe, Int.reduceBEq, Int.reduceDiv]
      refine next (i + 1, max n (dpOf x)) _ ⟨by simp only; omega, by simp only; omega, by simp only; rw [← dpGo_drop ex]; exact hw⟩ (by simp only; omega) ?_
      simp only
      rw [← wi64_nat i (by omega), ← max_nat]
      simp only [ASt.keep, consIf, keepL, keepV, AV.isBot, List.contains_cons, List.contains_nil, Nat.reduceBEq, Bool.or_false, Bool.false_or, Bool.or_true, Bool.true_or, beq_self_eq_true, Bool.false_eq_true, ↓reduceIte, if_false, if_true]
      rfl
    · have : i = it.items.length := by simp at hc; omega
      subst this
      rw [List.drop_length, dpGo_nil] at hw
      have w2 : IntKind.i64.wrap ((n : Int) + 1) = ((dpOf it : Nat) : Int) := by rw [← hw]; exact wi64_nat n (by omega)
      simp only [go_sem, ↓reduceIte, Nat.reduceLT, Nat.reduceLeDiff, Nat.reduceAdd, Nat.reduceSub, Nat.reduceMul, Nat.reduceEqDiff, Nat.reduceBEq, Nat.reduceMod, Nat.reduceDiv, Int.reduceToNat, reduceCtorEq, Int.reduceLT, Int.reduceLE, Int.reduceGT, Int.reduceGE, Int.reduceAdd, Int.reduceSub, Int.reduceMul, Int.reduceNeg, Int.reduceEq, Int.reduceNe, Int.reduceBNe, Int.reduceBEq, Int.reduceDiv, w2]
      refine finOne ?_ (fun _ e => by cases e)
      show resOf _ _ [.tmp 2] = _
      simp only [go_sem, ↓reduceIte, Nat.reduceLT, Nat.reduceLeDiff, Nat.reduceAdd, Nat.reduceSub, Nat.reduceMul, Nat.reduceEqDiff, Nat.reduceBEq, Nat.reduceMod, Nat.reduceDiv, Int.reduceToNat, reduceCtorEq, Int.reduceLT, Int.reduceLE, Int.reduceGT, Int.reduceGE, Int.reduceAdd, Int.reduceSub, Int.reduceMul, Int.reduceNeg, Int.reduceEq, Int.reduceNe, Int.reduceBNe, Int.reduceBEq, Int.reduceDiv]
termination_by SizeOf.sizeOf it
decreasing_by exact item_lt hx
end Go.Proofs.Ytmngjlgeojbghaa.VA
end
section
namespace Go.Proofs.Ytmngjlgeojbghaa.VA
set_option maxRecDepth 10000
set_option maxHeartbeats 4000000

noncomputable instance : DecidableEq ItemD := fun _ _ => Classical.propDecidable _
def itemsAv (xs : List ItemD) : AV := .sl false 3 (xs.map ItemD.av)
theorem itemsAv_plain (xs : List ItemD) : Plain (itemsAv xs) := .sl 3 _ fun c hc => by
  obtain ⟨x, _, rfl⟩ := List.mem_map.1 hc
  exact x.plain
theorem decide_congr {p q : Prop} [Decidable p] [Decidable q] (h : p ↔ q) : decide p = decide q := by simp [h]
theorem eqItems_of (xs ys : List ItemD) (hl : xs.length * 48 ≤ reachBytes) (hl2 : ys.length * 48 ≤ reachBytes) (ih : ∀ x, x ∈ xs → ∀ y, y ∈ ys → Contract Try.prog 10 [x.av, y.av] (.bool (decide (x = y)))) :
    Contract Try.prog 20 [itemsAv xs, itemsAv ys] (.bool (decide (xs = ys))) := by
  unfold reachBytes at hl hl2
  refine contract_of (C := cf 27 [0, 1, 4, 5, 10, 14, 26] (fun _ => [])) (cf_ok _ _ _) (fn := Try.f20) Try.func20 (by kernel_rfl) rfl (by kernel_rfl) (by simp [cf]) (plain2 (itemsAv_plain xs) (itemsAv_plain ys)) (by decide) (noCell (by kernel_rfl)) ?_
  simp only [go_sem, ↓reduceIte, Nat.reduceLT, Nat.reduceLeDiff, Nat.reduceAdd, Nat.reduceSub, Nat.reduceMul, Nat.reduceEqDiff, Nat.reduceBEq, Nat.reduceMod, Nat.reduceDiv, Int.reduceToNat, reduceCtorEq, Int.reduceLT, Int.reduceLE, Int.reduceGT, Int.reduceGE, Int.reduceAdd, Int.reduceSub, Int.reduceMul, Int.reduceNeg, Int.reduceEq, Int.reduceNe, Int.reduceBNe, Int.reduceBEq, Int.reduceDiv, itemsAv, List.length_map]
  refine ex_br (fun hc => ?_) (fun hc => ?_)
  · have hne : xs.length ≠ ys.length := by simp at hc; omega
    have e : decide (xs = ys) = false := decide_eq_false fun e => hne (by rw [e])
    simp only [go_sem, ↓reduceIte, Nat.reduceLT, Nat.reduceLeDiff, Nat.reduceAdd, Nat.reduceSub, Nat.reduceMul, Nat.reduceEqDiff, Nat.reduceBEq, Nat.reduceMod, Nat.reduceDiv, Int.reduceToNat, reduceCtorEq, Int.reduceLT, Int.reduceLE, Int.reduceGT, Int.reduceGE, Int.reduceAdd, Int.reduceSub, Int.reduceMul, Int.reduceNeg, Int.reduceEq, Int.reduceNe, Int.reduceBNe, Int.reduceBEq, Int.reduceDiv, e]
    refine finOne ?_ (fun _ e => by cases e)
    show resOf _ _ [.tmp 4] = _
    simp only [go_sem, ↓reduceIte, Nat.reduceLT, Nat.reduceLeDiff, Nat.reduceAdd, Nat.reduceSub, Nat.reduceMul, Nat.reduceEqDiff, Nat.reduceBEq, Nat.reduceMod, Nat.reduceDiv, Int.reduceToNat, reduceCtorEq, Int.reduceLT, Int.reduceLE, Int.reduceGT, Int.reduceGE, Int.reduceAdd, Int.reduceSub, Int.reduceMul, Int.reduceNeg, Int.reduceEq, Int.reduceNe, Int.reduceBNe, Int.reduceBEq, Int.reduceDiv]
  · have hle : xs.length = ys.length := by simp at hc; omega
    simp only [go_sem, ↓reduceIte, Nat.reduceLT, Nat.reduceLeDiff, Nat.reduceAdd, Nat.reduceSub, Nat.reduceMul, Nat.reduceEqDiff, Nat.reduceBEq, Nat.reduceMod, Nat.reduceDiv, Int.reduceToNat, reduceCtorEq, Int.reduceLT, Int.reduceLE, Int.reduceGT, Int.reduceGE, Int.reduceAdd, Int.reduceSub, Int.reduceMul, Int.reduceNeg, Int.reduceEq, Int.reduceNe, Int.reduceBNe, Int.reduceBEq, Int.reduceDiv]
    refine ex_iter [0, 1, 5] (fun i : Nat => ⟨[(0, itemsAv xs), (1, itemsAv ys), (5, .int .i64 i)], [], []⟩) (fun i => i ≤ xs.length ∧ xs.take i = ys.take i) (fun i => xs.length - i) 0 ?_ ?_ ?_
    · simp only [ASt.keep, consIf, keepL, keepV, AV.isBot, List.contains_cons, List.contains_nil, Nat.reduceBEq, Bool.or_false, Bool.false_or, Bool.or_true, Bool.true_or, beq_self_eq_true, Bool.false_eq_true, ↓reduceIte, if_false, if_true]
      rfl
    · exact ⟨Nat.zero_le _, by simp⟩
    · rintro n i ⟨hi, het⟩ next
      simp only [go_sem, ↓reduceIte, Nat.reduceLT, Nat.reduceLeDiff, Nat.reduceAdd, Nat.reduceSub, Nat.reduceMul, Nat.reduceEqDiff, Nat.reduceBEq, Nat.reduceMod, Nat.reduceDiv, Int.reduceToNat, reduceCtorEq, Int.reduceLT, Int.reduceLE, Int.reduceGT, Int.reduceGE, Int.reduceAdd, Int.reduceSub, Int.reduceMul, Int.reduceNeg, Int.reduceEq, Int.reduceNe, Int.reduceBNe, Int.reduceBEq, Int.reduceDiv, itemsAv, List.length_map]
      refine ex_br (fun h => ?_) (fun h => ?_)
      · have hlt : i < xs.length := by simpa using h
        obtain ⟨x, ex⟩ : ∃ x, xs[i]? = some x := ⟨_, List.getElem?_eq_getElem hlt⟩
        obtain ⟨y, ey⟩ : ∃ y, ys[i]? = some y := ⟨_, List.getElem?_eq_getElem (by omega)⟩
        have hx := ih x (List.mem_of_getElem? ex) y (List.mem_of_getElem? ey)
        rw [x.av_eq, y.av_eq] at hx
        simp only [go_sem, ↓reduceIte, Nat.reduceLT, Nat.reduceLeDiff, Nat.reduceAdd, Nat.reduceSub, Nat.reduceMul, Nat.reduceEqDiff, Nat.reduceBEq, Nat.reduceMod, Nat.reduceDiv, Int.reduceToNat, reduceCtorEq, Int.reduceLT, Int.reduceLE, Int.reduceGT, Int.reduceGE, Int.reduceAdd, Int.reduceSub, Int.reduceMul, Int.reduceNeg, Int.reduceEq, Int.reduceNe, Int.reduceBNe, Int.reduceBEq, Int.reduceDiv]
        refine ex_draw [] [] (.quiet 0 (.quiet 1 (.quiet 2 (.quiet 3 (.quiet 4 (.quiet 5 (.quiet 6 (.quiet 7 (.one 8 (.quiet 9 (.fin))))))))))) (by kernel_rfl) ?_
        simp only [go_sem, ↓reduceIte, Nat.reduceLT, Nat.reduceLeDiff, Nat.reduceAdd, Nat.reduceSub, Nat.reduceMul, Nat.reduceEqDiff, Nat.reduceBEq, Nat.reduceMod, Nat.reduceDiv, Int.reduceToNat, reduceCtorEq, Int.reduceLT, Int.reduceLE, Int.reduceGT, Int.reduceGE, Int.reduceAdd, Int.reduceSub, Int.reduceMul, Int.reduceNeg, Int.reduceEq, Int.reduceNe, Int.reduceBNe, Int.reduceBEq, Int.reduceDiv, List.length_map, List.getElem?_map, ex, ey, Int.toNat_natCast, ItemD.av_eq]
        repeat with_reducible refine And.intro (by first | omega | (simp only [List.length_cons, List.length_append, List.length_nil, List.length_map, List.length_take, List.length_drop, List.length_set]; omega)) ?_
        try simp only [go_sem, ↓reduceIte, Nat.reduceLT, Nat.reduceLeDiff, Nat.reduceAdd, Nat.reduceSub, Nat.reduceMul, Nat.reduceEqDiff, Nat.reduceBEq, Nat.reduceMod, Nat.reduceDiv, Int.reduceToNat, reduceCtorEq, Int.reduceLT, Int.reduceLE, Int.reduceGT, Int.reduceGE, Int.reduceAdd, Int.reduceSub, Int.reduceMul, Int.reduceNeg, Int.reduceEq, Int.reduceNe, Int.reduceBNe, Int.reduceBEq, Int.reduceDiv, cellsI_len]
        repeat with_reducible refine And.intro (by first | omega | (simp only [List.length_cons, List.length_append, List.length_nil, List.length_map, List.length_take, List.length_drop, List.length_set]; omega)) ?_
        try simp only [go_sem, ↓reduceIte, Nat.reduceLT, Nat.reduceLeDiff, Nat.reduceAdd, Nat.reduceSub, Nat.reduceMul, Nat.reduceEqDiff, Nat.reduceBEq, Nat.reduceMod, Nat.reduceDiv, Int.reduceToNat, reduceCtorEq, Int.reduceLT, Int.reduceLE, Int.reduceGT, Int.reduceGE, Int.reduceAdd, Int.reduceSub, Int.reduceMul, Int.reduceNeg, Int.reduceEq, Int.reduceNe, Int.reduceBNe, Int.reduceBEq, Int.reduceDiv, cellsI_len]
        refine ex_call (by exact hx) ?_
        simp only [go_sem, ↓reduceIte, Nat.reduceLT, Nat.reduceLeDiff, Nat.reduceAdd, Nat.reduceSub, Nat.reduceMul, Nat.reduceEqDiff, Nat.reduceBEq, Nat.reduceMod, Nat.reduceDiv, Int.reduceToNat, reduceCtorEq, Int.reduceLT, Int.reduceLE, Int.reduceGT, Int.reduceGE, Int.reduceAdd, Int.reduceSub, Int.reduceMul, Int.reduceNeg, Int.reduceEq, Int.reduceNe, Int.reduceBNe, Int.reduceBEq, Int.reduceDiv]
        refine ex_br (fun hd => ?_) (fun hd => ?_)
        · have hne : x ≠ y := by simpa using hd
          have e : decide (xs = ys) = false := decide_eq_false fun e => by
            subst e; rw [ex] at ey; cases ey; exact hne rfl
          simp only [go_sem, ↓reduceIte, Nat.reduceLT, Nat.reduceLeDiff, Nat.reduceAdd, Nat.reduceSub, Nat.reduceMul, Nat.reduceEqDiff, Nat.reduceBEq, Nat.reduceMod, Nat.reduceDiv, Int.reduceToNat, reduceCtorEq, Int.reduceLT, Int.reduceLE, Int.reduceGT, Int.reduceGE, Int.reduceAdd, Int.reduceSub, Int.reduceMul, Int.reduceNeg, Int.reduceEq, Int.reduceNe, Int.reduceBNe, Int.reduceBEq, Int.reduceDiv, e]
          refine finOne ?_ (fun _ e => by cases e)
          show resOf _ _ [.tmp 4] = _
          simp only [go_sem, ↓reduceIte, Nat.reduceLT, Nat.reduceLeDiff, Nat.reduceAdd, Nat.reduceSub, Nat.reduceMul, Nat.reduceEqDiff, Nat.reduceBEq, Nat.reduceMod, Nat.reduceDiv, Int.reduceToNat, reduceCtorEq, Int.reduceLT, Int.reduceLE, Int.reduceGT, Int.reduceGE, Int.reduceAdd, Int.reduceSub, Int.reduceMul, Int.reduceNeg, Int.reduceEq, Int.reduceNe, Int.reduceBNe, Int.reduceBEq, Int.reduceDiv]
        · have heq : x = y := by simpa using hd
          subst heq
          simp only [go_sem, ↓reduceIte, Nat.reduceLT, Nat.reduceLeDiff, Nat.reduceAdd, Nat.reduceSub, Nat.reduceMul, Nat.reduceEqDiff, Nat.reduceBEq, Nat.reduceMod, Nat.reduceDiv, Int.reduceToNat, reduceCtorEq, Int.reduceLT, Int.reduceLE, Int.reduceGT, Int.reduceGE, Int.reduceAdd, Int.reduceSub, Int.reduceMul, Int.reduceNeg, Int.reduceEq, Int.reduceNe, Int.reduceBNe, Int.reduceBEq, Int.reduceDiv]
          refine next (i + 1) _ ⟨by omega, by rw [List.take_add_one, List.take_add_one, het, ex, ey]⟩ (by omega) ?_
          rw [← wi64_nat i (by omega)]
          simp only [ASt.keep, consIf, keepL, keepV, AV.isBot, List.contains_cons, List.contains_nil, Nat.reduceBEq, Bool.or_false, Bool.false_or, Bool.or_true, Bool.true_or, beq_self_eq_true, Bool.false_eq_true, ↓reduceIte, if_false, if_true]
          rfl
      · have hge : i = xs.length := by simp at h; omega
        subst hge
        have e : xs = ys := by rw [List.take_length, List.take_of_length_le (by omega)] at het; exact het
        simp only [go_sem, ↓reduceIte, Nat.reduceLT, Nat.reduceLeDiff, Nat.reduceAdd, Nat.reduceSub, Nat.reduceMul, Nat.reduceEqDiff, Nat.reduceBEq, Nat.reduceMod, Nat.reduceDiv, Int.reduceToNat, reduceCtorEq, Int.reduceLT, Int.reduceLE, Int.reduceGT, Int.reduceGE, Int.reduceAdd, Int.reduceSub, Int.reduceMul, Int.reduceNeg, Int.reduceEq, Int.reduceNe, Int.reduceBNe, Int.reduceBEq, Int.reduceDiv, decide_eq_true e]
        refine finOne ?_ (fun _ e => by cases e)
        show resOf _ _ [.tmp 4] = _
        simp only [go_sem, ↓reduceIte, Nat.reduceLT, Nat.reduceLeDiff, Nat.reduceAdd, Nat.reduceSub, Nat.reduceMul, Nat.reduceEqDiff, Nat.reduceBEq, Nat.reduceMod, Nat.reduceDiv, Int.reduceToNat, reduceCtorEq, Int.reduceLT, Int.reduceLE, Int.reduceGT, Int.reduceGE, Int.reduceAdd, Int.reduceSub, Int.reduceMul, Int.reduceNeg, Int.reduceEq, Int.reduceNe, Int.reduceBNe, Int.reduceBEq, Int.reduceDiv]
theorem c_EqItem (a b : ItemD) (ha : a.ok) (hb : b.ok) : Contract Try.prog 10 [a.av, b.av] (.bool (decide (a = b))) := by
  have hi := eqItems_of a.items b.items ha.len hb.len fun x hx y hy => c_EqItem x y (ha.all x hx) (hb.all y hy)
  refine contract_of (C := cf 24 [2, 3, 4] (fun _ => [])) (cf_ok _ _ _) (fn := Try.f10) Try.func10 (by kernel_rfl) rfl (by kernel_rfl) (by simp [cf]) (plain2 a.plain b.plain) (by decide) (noCell (by kernel_rfl)) ?_
  have hab : a = b ↔ a.list = b.list ∧ a.text = b.text ∧ a.items = b.items := by
    cases a; cases b
    simp [ItemD.list, ItemD.text, ItemD.items]
  simp only [go_sem, ↓reduceIte, Nat.reduceLT, Nat.reduceLeDiff, Nat.reduceAdd, Nat.reduceSub, Nat.reduceMul, Nat.reduceEqDiff, Nat.reduceBEq, Nat.reduceMod, Nat.reduceDiv, Int.reduceToNat, reduceCtorEq, Int.reduceLT, Int.reduceLE, Int.reduceGT, Int.reduceGE, Int.reduceAdd, Int.reduceSub, Int.reduceMul, Int.reduceNeg, Int.reduceEq, Int.reduceNe, Int.reduceBNe, Int.reduceBEq, Int.reduceDiv, ItemD.av_eq, ItemD.cells]
  refine ex_split (fun h1 => ?_) (fun h1 => ?_)
  · have h1 : a.list = b.list := by simpa using h1
    simp only [go_sem, ↓reduceIte, Nat.reduceLT, Nat.reduceLeDiff, Nat.reduceAdd, Nat.reduceSub, Nat.reduceMul, Nat.reduceEqDiff, Nat.reduceBEq, Nat.reduceMod, Nat.reduceDiv, Int.reduceToNat, reduceCtorEq, Int.reduceLT, Int.reduceLE, Int.reduceGT, Int.reduceGE, Int.reduceAdd, Int.reduceSub, Int.reduceMul, Int.reduceNeg, Int.reduceEq, Int.reduceNe, Int.reduceBNe, Int.reduceBEq, Int.reduceDiv, ItemD.cells]
    refine ex_split (fun h2 => ?_) (fun h2 => ?_)
    · have h2 : a.text = b.text := by simpa using h2
      have e : decide (a = b) = decide (a.items = b.items) := decide_congr (by rw [hab]; exact ⟨fun h => h.2.2, fun h => ⟨h1, h2, h⟩⟩)
      rw [e]
      simp only [go_sem, ↓reduceIte, Nat.reduceLT, Nat.reduceLeDiff, Nat.reduceAdd, Nat.reduceSub, Nat.reduceMul, Nat.reduceEqDiff, Nat.reduceBEq, Nat.reduceMod, Nat.reduceDiv, Int.reduceToNat, reduceCtorEq, Int.reduceLT, Int.reduceLE, Int.reduceGT, Int.reduceGE, Int.reduceAdd, Int.reduceSub, Int.reduceMul, Int.reduceNeg, Int.reduceEq, Int.reduceNe, Int.reduceBNe, Int.reduceBEq, Int.reduceDiv]
      refine ex_call (by exact hi) ?_
      simp only [go_sem, ↓reduceIte, Nat.reduceLT, Nat.reduceLeDiff, Nat.reduceAdd, Nat.reduceSub, Nat.reduceMul, Nat.reduceEqDiff, Nat.reduceBEq, Nat.reduceMod, Nat.reduceDiv, Int.reduceToNat, reduceCtorEq, Int.reduceLT, Int.reduceLE, Int.reduceGT, Int.reduceGE, Int.reduceAdd, Int.reduceSub, Int.reduceMul, Int.reduceNeg, Int.reduceEq, Int.reduceNe, Int.reduceBNe, Int.reduceBEq, Int.reduceDiv]
      refine finOne ?_ (fun _ e => by cases e)
      show resOf _ _ [.tmp 4] = _
      simp only [go_sem, ↓reduceIte, Nat.reduceLT, Nat.reduceLeDiff, Nat.reduceAdd, Nat.reduceSub, Nat.reduceMul, Nat.reduceEqDiff, Nat.reduceBEq, Nat.reduceMod, Nat.reduceDiv, Int.reduceToNat, reduceCtorEq, Int.reduceLT, Int.reduceLE, Int.reduceGT, Int.reduceGE, Int.reduceAdd, Int.reduceSub, Int.reduceMul, Int.reduceNeg, Int.reduceEq, Int.reduceNe, Int.reduceBNe, Int.reduceBEq, Int.reduceDiv]
    · have h2 : a.text ≠ b.text := by simpa using h2
      have e : decide (a = b) = false := decide_eq_false (by rw [hab]; exact fun h => h2 h.2.1)
      rw [e]
      simp only [go_sem, ↓reduceIte, Nat.reduceLT, Nat.reduceLeDiff, Nat.reduceAdd, Nat.reduceSub, Nat.reduceMul, Nat.reduceEqDiff, Nat.reduceBEq, Nat.reduceMod, Nat.reduceDiv, Int.reduceToNat, reduceCtorEq, Int.reduceLT, Int.reduceLE, Int.reduceGT, Int.reduceGE, Int.reduceAdd, Int.reduceSub, Int.reduceMul, Int.reduceNeg, Int.reduceEq, Int.reduceNe, Int.reduceBNe, Int.reduceBEq, Int.reduceDiv]
      refine finOne ?_ (fun _ e => by cases e)
      show resOf _ _ [.tmp 4] = _
      simp only [go_sem, ↓reduceIte, Nat.reduceLT, Nat.reduceLeDiff, Nat.reduceAdd, Nat.reduceSub, Nat.reduceMul, Nat.reduceEqDiff, Nat.reduceBEq, Nat.reduceMod, Nat.reduceDiv, Int.reduceToNat, reduceCtorEq, Int.reduceLT, Int.reduceLE, Int.reduceGT, Int.reduceGE, Int.reduceAdd, Int.reduceSub, Int.reduceMul, Int.reduceNeg, Int.reduceEq, Int.reduceNe, Int.reduceBNe, Int.reduceBEq, Int.reduceDiv]
  · have h1 : a.list ≠ b.list := by simpa using h1
    have e : decide (a = b) = false := decide_eq_false (by rw [hab]; exact fun h => h1 h.1)
    rw [e]
    simp only [go_sem, ↓reduceIte, Nat.reduceLT, Nat.reduceLeDiff, Nat.reduceAdd, Nat.reduceSub, Nat.reduceMul, Nat.reduceEqDiff, Nat.reduceBEq, Nat.reduceMod, Nat.reduceDiv, Int.reduceToNat, reduceCtorEq, Int.reduceLT, Int.reduceLE, Int.reduceGT, Int.reduceGE, Int.reduceAdd, Int.reduceSub, Int.reduceMul, Int.reduceNeg, Int.reduceEq, Int.reduceNe, Int.reduceBNe, Int.reduceBEq, Int.reduceDiv]
    refine finOne ?_ (fun _ e => by cases e)
    show resOf _ _ [.tmp 4] = _
    simp only [go_sem, ↓reduceIte, Nat.reduceLT, Nat.reduceLeDiff, Nat.reduceAdd, Nat.reduceSub, Nat.reduceMul, Nat.reduceEqDiff, Nat.reduceBEq, Nat.reduceMod, Nat.reduceDiv, Int.reduceToNat, reduceCtorEq, Int.reduceLT, Int.reduceLE, Int.reduceGT, Int.reduceGE, Int.reduceAdd, Int.reduceSub, Int.reduceMul, Int.reduceNeg, Int.reduceEq, Int.reduceNe, Int.reduceBNe, Int.reduceBEq, Int.reduceDiv]
termination_by SizeOf.sizeOf a
decreasing_by exact item_lt hx
theorem c_EqItems (xs ys : List ItemD) (h1 : wts xs ≤ 16777216) (h2 : wts ys ≤ 16777216) : Contract Try.prog 20 [itemsAv xs, itemsAv ys] (.bool (decide (xs = ys))) := by
  have l1 := wts_len xs
  have l2 := wts_len ys
  refine eqItems_of xs ys (by unfold reachBytes; omega) (by unfold reachBytes; omega) fun x hx y hy => c_EqItem x y ?_ ?_
  · have := wts_mem hx; unfold ItemD.ok; omega
  · have := wts_mem hy; unfold ItemD.ok; omega
/-- A question of the laws: an item, bytes. -/
def askAv (it : ItemD) (s : List UInt8) : AV := .agg (it.cells ++ [.str s])
theorem askAv_plain (it : ItemD) (s : List UInt8) : Plain (askAv it s) := .agg _ fun c hc => by
  rcases List.mem_append.1 hc with hc | hc
  · have := it.plain
    rw [it.av_eq] at this
    cases this with | agg _ h => exact h c hc
  · rcases List.mem_cons.1 hc with rfl | hc
    · exact .str _
    · cases hc
def heavyI (it : ItemD) (s : List UInt8) : Bool := decide (wtOf it > 70000) || decide (dpOf it > 40) || decide (s.length > 70000)
theorem c_law4_heavy (it : ItemD) (s : List UInt8) (h : it.ok) (hs : s.length ≤ reachBytes) : Contract Try.prog 6 [askAv it s] (.bool (heavyI it s)) := by
  unfold reachBytes at hs
  have h1 := c_ItemWeight it h
  have h2 := c_Deep it h
  rw [ItemD.av_eq] at h1 h2
  refine contract_of (C := cf 19 [1, 2] (fun _ => [])) (cf_ok _ _ _) (fn := Try.f6) Try.func6 (by kernel_rfl) rfl (by kernel_rfl) (by simp [cf]) (plain1 (askAv_plain it s)) (by decide) (noCell (by kernel_rfl)) ?_
  simp only [go_sem, ↓reduceIte, Nat.reduceLT, Nat.reduceLeDiff, Nat.reduceAdd, Nat.reduceSub, Nat.reduceMul, Nat.reduceEqDiff, Nat.reduceBEq, Nat.reduceMod, Nat.reduceDiv, Int.reduceToNat, reduceCtorEq, Int.reduceLT, Int.reduceLE, Int.reduceGT, Int.reduceGE, Int.reduceAdd, Int.reduceSub, Int.reduceMul, Int.reduceNeg, Int.reduceEq, Int.reduceNe, Int.reduceBNe, Int.reduceBEq, Int.reduceDiv, askAv, ItemD.cells]
  refine ex_call (by exact h1) ?_
  simp only [go_sem, ↓reduceIte, Nat.reduceLT, Nat.reduceLeDiff, Nat.reduceAdd, Nat.reduceSub, Nat.reduceMul, Nat.reduceEqDiff, Nat.reduceBEq, Nat.reduceMod, Nat.reduceDiv, Int.reduceToNat, reduceCtorEq, Int.reduceLT, Int.reduceLE, Int.reduceGT, Int.reduceGE, Int.reduceAdd, Int.reduceSub, Int.reduceMul, Int.reduceNeg, Int.reduceEq, Int.reduceNe, Int.reduceBNe, Int.reduceBEq, Int.reduceDiv]
  unfold heavyI
  refine ex_split (fun e1 => ?_) (fun e1 => ?_)
  · have e1 : decide (wtOf it > 70000) = false := by simp at e1; simp; omega
    rw [e1]
    simp only [go_sem, ↓reduceIte, Nat.reduceLT, Nat.reduceLeDiff, Nat.reduceAdd, Nat.reduceSub, Nat.reduceMul, Nat.reduceEqDiff, Nat.reduceBEq, Nat.reduceMod, Nat.reduceDiv, Int.reduceToNat, reduceCtorEq, Int.reduceLT, Int.reduceLE, Int.reduceGT, Int.reduceGE, Int.reduceAdd, Int.reduceSub, Int.reduceMul, Int.reduceNeg, Int.reduceEq, Int.reduceNe, Int.reduceBNe, Int.reduceBEq, Int.reduceDiv]
    refine ex_call (by exact h2) ?_
    simp only [go_sem, ↓reduceIte, Nat.reduceLT, Nat.reduceLeDiff, Nat.reduceAdd, Nat.reduceSub, Nat.reduceMul, Nat.reduceEqDiff, Nat.reduceBEq, Nat.reduceMod, Nat.reduceDiv, Int.reduceToNat, reduceCtorEq, Int.reduceLT, Int.reduceLE, Int.reduceGT, Int.reduceGE, Int.reduceAdd, Int.reduceSub, Int.reduceMul, Int.reduceNeg, Int.reduceEq, Int.reduceNe, Int.reduceBNe, Int.reduceBEq, Int.reduceDiv]
    refine ex_split (fun e2 => ?_) (fun e2 => ?_)
    · have e2 : decide (dpOf it > 40) = false := by simp at e2; simp; omega
      rw [e2]
      simp only [go_sem, ↓reduceIte, Nat.reduceLT, Nat.reduceLeDiff, Nat.reduceAdd, Nat.reduceSub, Nat.reduceMul, Nat.reduceEqDiff, Nat.reduceBEq, Nat.reduceMod, Nat.reduceDiv, Int.reduceToNat, reduceCtorEq, Int.reduceLT, Int.reduceLE, Int.reduceGT, Int.reduceGE, Int.reduceAdd, Int.reduceSub, Int.reduceMul, Int.reduceNeg, Int.reduceEq, Int.reduceNe, Int.reduceBNe, Int.reduceBEq, Int.reduceDiv]
      have e3 : decide ((s.length : Int) > 70000) = decide (s.length > 70000) := decide_congr (by omega)
      rw [e3]
      refine finOne ?_ (fun _ e => by cases e)
      show resOf _ _ [.tmp 2] = _
      simp only [go_sem, ↓reduceIte, Nat.reduceLT, Nat.reduceLeDiff, Nat.reduceAdd, Nat.reduceSub, Nat.reduceMul, Nat.reduceEqDiff, Nat.reduceBEq, Nat.reduceMod, Nat.reduceDiv, Int.reduceToNat, reduceCtorEq, Int.reduceLT, Int.reduceLE, Int.reduceGT, Int.reduceGE, Int.reduceAdd, Int.reduceSub, Int.reduceMul, Int.reduceNeg, Int.reduceEq, Int.reduceNe, Int.reduceBNe, Int.reduceBEq, Int.reduceDiv]
    · have e2 : decide (dpOf it > 40) = true := by simp at e2; simp; omega
      rw [e2]
      simp only [go_sem, ↓reduceIte, Nat.reduceLT, Nat.reduceLeDiff, Nat.reduceAdd, Nat.reduceSub, Nat.reduceMul, Nat.reduceEqDiff, Nat.reduceBEq, Nat.reduceMod, Nat.reduceDiv, Int.reduceToNat, reduceCtorEq, Int.reduceLT, Int.reduceLE, Int.reduceGT, Int.reduceGE, Int.reduceAdd, Int.reduceSub, Int.reduceMul, Int.reduceNeg, Int.reduceEq, Int.reduceNe, Int.reduceBNe, Int.reduceBEq, Int.reduceDiv]
      refine finOne ?_ (fun _ e => by cases e)
      show resOf _ _ [.tmp 2] = _
      simp only [go_sem, ↓reduceIte, Nat.reduceLT, Nat.reduceLeDiff, Nat.reduceAdd, Nat.reduceSub, Nat.reduceMul, Nat.reduceEqDiff, Nat.reduceBEq, Nat.reduceMod, Nat.reduceDiv, Int.reduceToNat, reduceCtorEq, Int.reduceLT, Int.reduceLE, Int.reduceGT, Int.reduceGE, Int.reduceAdd, Int.reduceSub, Int.reduceMul, Int.reduceNeg, Int.reduceEq, Int.reduceNe, Int.reduceBNe, Int.reduceBEq, Int.reduceDiv]
  · have e1 : decide (wtOf it > 70000) = true := by simp at e1; simp; omega
    rw [e1]
    simp only [go_sem, ↓reduceIte, Nat.reduceLT, Nat.reduceLeDiff, Nat.reduceAdd, Nat.reduceSub, Nat.reduceMul, Nat.reduceEqDiff, Nat.reduceBEq, Nat.reduceMod, Nat.reduceDiv, Int.reduceToNat, reduceCtorEq, Int.reduceLT, Int.reduceLE, Int.reduceGT, Int.reduceGE, Int.reduceAdd, Int.reduceSub, Int.reduceMul, Int.reduceNeg, Int.reduceEq, Int.reduceNe, Int.reduceBNe, Int.reduceBEq, Int.reduceDiv]
    refine finOne ?_ (fun _ e => by cases e)
    show resOf _ _ [.tmp 2] = _
    simp only [go_sem, ↓reduceIte, Nat.reduceLT, Nat.reduceLeDiff, Nat.reduceAdd, Nat.reduceSub, Nat.reduceMul, Nat.reduceEqDiff, Nat.reduceBEq, Nat.reduceMod, Nat.reduceDiv, Int.reduceToNat, reduceCtorEq, Int.reduceLT, Int.reduceLE, Int.reduceGT, Int.reduceGE, Int.reduceAdd, Int.reduceSub, Int.reduceMul, Int.reduceNeg, Int.reduceEq, Int.reduceNe, Int.reduceBNe, Int.reduceBEq, Int.reduceDiv]
end Go.Proofs.Ytmngjlgeojbghaa.VA
end
section
namespace Go.Proofs.Ytmngjlgeojbghaa.VA
set_option maxRecDepth 10000
set_option maxHeartbeats 4000000

structure Ask4 where
  it : ItemD
  s : List UInt8
def Ask4.av (a : Ask4) : AV := askAv a.it a.s
def asks4 (l : List Ask4) : AV := .sl false 4 (l.map Ask4.av)
theorem asks4_plain (l : List Ask4) : Plain (asks4 l) := .sl 4 _ fun c hc => by
  obtain ⟨a, _, rfl⟩ := List.mem_map.1 hc
  exact askAv_plain a.it a.s
structure Ask4.ok (a : Ask4) : Prop where
  it : a.it.wt ≤ 1048576
  s : a.s.length ≤ 1048576
theorem Ask4.ok.itok {a : Ask4} (h : a.ok) : a.it.ok := by have := h.it; unfold ItemD.ok; omega
theorem sum_ones {α : Type} : ∀ l : List α, (l.map (fun _ => 1)).sum = l.length
  | [] => rfl
  | a :: l => by rw [List.map_cons, List.sum_cons, sum_ones l, List.length_cons, Nat.add_comm]
theorem ty_asks4 {x : AV} (h : Ty ti 22 x) (hb : x.bulk ≤ 1048576) : ∃ l : List Ask4, x = asks4 l ∧ l.length ≤ 1048576 ∧ ∀ a ∈ l, a.ok := by
  obtain ⟨es, rfl, _, hes⟩ := ty_slice rfl h
  have hb2 : AV.bulks es + 1 ≤ 1048576 := by rw [AV.bulk] at hb; exact hb
  have each : ∀ y ∈ es, ∃ a : Ask4, y = a.av := fun y hy => by
    obtain ⟨xs, rfl, hl, hf⟩ := ty_struct rfl (hes y hy)
    have hl : xs.length = 2 := hl
    match xs, hl with
    | [p, q], _ =>
      have hp := hf 0 _ _ _ _ rfl rfl
      have hq := hf 1 _ _ _ _ rfl rfl
      obtain ⟨it, rfl⟩ := ty_item _ hp (Nat.le_refl _)
      obtain ⟨s, rfl, _⟩ := ty_str rfl hq
      refine ⟨⟨it, s⟩, ?_⟩
      simp only [List.flatMap_cons, List.flatMap_nil, ItemD.av_eq, AV.flat, Ask4.av, askAv]
      rfl
  obtain ⟨l, rfl⟩ := map_of_all (f := Ask4.av) es each
  have hlen := bulks_map Ask4.av (fun _ => 1) (fun a => by unfold Ask4.av askAv; rw [AV.bulk]; omega) l
  rw [sum_ones] at hlen
  refine ⟨l, rfl, by omega, fun a ha => ?_⟩
  have h1 := bulks_mem (List.mem_map_of_mem (f := Ask4.av) ha)
  have h2 := wt_bulk a.it
  have h3 : a.av.bulk = AV.bulks a.it.cells + (a.s.length + 1) + 1 := by
    unfold Ask4.av askAv
    simp only [AV.bulk, bulks_append, AV.bulks, Nat.add_zero]
  rw [a.it.av_eq, AV.bulk] at h2
  exact ⟨by omega, by omega⟩
end Go.Proofs.Ytmngjlgeojbghaa.VA
end
section
namespace Go.Proofs.Ytmngjlgeojbghaa.VA

def bitsOf (n : Nat) : Nat := if n = 0 then 0 else Nat.log2 n + 1
theorem bits_le (n k : Nat) : bitsOf n ≤ k ↔ n < 2 ^ k := by
  unfold bitsOf
  split
  · rename_i h
    subst h
    simp [Nat.two_pow_pos]
  · rename_i h
    rw [← Nat.log2_lt h]
    omega
def byteLen (n : Nat) : Nat := (bitsOf n + 7) / 8
theorem byteLen_le (n k : Nat) : byteLen n ≤ k ↔ n < 256 ^ k := by
  have e : 256 ^ k = 2 ^ (8 * k) := by rw [show (256 : Nat) = 2 ^ 8 by decide, ← Nat.pow_mul]
  rw [e, ← bits_le]
  unfold byteLen
  omega
theorem byteLen_lt (n : Nat) : n < 256 ^ byteLen n := (byteLen_le n _).1 (Nat.le_refl _)
theorem byteLen_ge (n : Nat) (h : byteLen n ≠ 0) : 256 ^ (byteLen n - 1) ≤ n := by
  by_cases e : n < 256 ^ (byteLen n - 1)
  · have := (byteLen_le n _).2 e
    omega
  · omega
theorem byteLen_eq {n k : Nat} (h1 : n < 256 ^ k) (h2 : k = 0 ∨ 256 ^ (k - 1) ≤ n) : byteLen n = k := by
  have h3 := (byteLen_le n k).2 h1
  rcases h2 with rfl | h2
  · omega
  · by_cases e : byteLen n ≤ k - 1
    · have := (byteLen_le n _).1 e
      omega
    · omega
/-- The lowest k bytes. -/
def low : Nat → Nat → List UInt8
  | 0, _ => []
  | k + 1, n => UInt8.ofNat (n / 256 ^ k) :: low k n
theorem low_len : ∀ k n, (low k n).length = k
  | 0, _ => rfl
  | k + 1, n => by rw [low, List.length_cons, low_len k n]
theorem low_get : ∀ (k n i : Nat), i < k → (low k n)[i]? = some (UInt8.ofNat (n / 256 ^ (k - 1 - i)))
  | 0, _, _, h => by omega
  | k + 1, n, 0, _ => by rw [low]; rfl
  | k + 1, n, i + 1, h => by
    rw [low, List.getElem?_cons_succ, low_get k n i (by omega), show k + 1 - 1 - (i + 1) = k - 1 - i by omega]
def bytesOf (n : Nat) : List UInt8 := low (byteLen n) n
theorem bytesOf_len (n : Nat) : (bytesOf n).length = byteLen n := low_len _ _
/-- The number that bytes are. -/
def numOf (s : List UInt8) : Nat := s.foldl (fun a b => a * 256 + b.toNat) 0
theorem foldl_val : ∀ (s : List UInt8) (a : Nat), s.foldl (fun a b => a * 256 + b.toNat) a = a * 256 ^ s.length + numOf s
  | [], a => by simp [numOf]
  | b :: s, a => by
    have e : numOf (b :: s) = b.toNat * 256 ^ s.length + numOf s := by
      show (b :: s).foldl (fun a b => a * 256 + b.toNat) 0 = _
      rw [List.foldl_cons, foldl_val s, Nat.zero_mul, Nat.zero_add]
    rw [e, List.foldl_cons, foldl_val s, List.length_cons, Nat.pow_succ]
    rw [Nat.add_mul, Nat.mul_assoc, Nat.mul_comm 256, Nat.add_assoc]
theorem numOf_nil : numOf [] = 0 := rfl
theorem numOf_cons (b : UInt8) (s : List UInt8) : numOf (b :: s) = b.toNat * 256 ^ s.length + numOf s := by
  rw [numOf, List.foldl_cons, foldl_val]; simp
theorem numOf_lt : ∀ s : List UInt8, numOf s < 256 ^ s.length
  | [] => by decide
  | b :: s => by
    have h1 := numOf_lt s
    have h2 : b.toNat < 256 := b.toNat_lt
    rw [numOf_cons, List.length_cons, Nat.pow_succ]
    have : (b.toNat + 1) * 256 ^ s.length ≤ 256 * 256 ^ s.length := Nat.mul_le_mul_right _ h2
    rw [Nat.add_mul, Nat.one_mul, Nat.mul_comm 256] at this
    omega
theorem low_val : ∀ (k n : Nat), numOf (low k n) = n % 256 ^ k
  | 0, n => by rw [low, numOf_nil, Nat.pow_zero, Nat.mod_one]
  | k + 1, n => by
    rw [low, numOf_cons, low_len, low_val k n]
    have : (UInt8.ofNat (n / 256 ^ k)).toNat = n / 256 ^ k % 256 := by simp
    rw [this, Nat.pow_succ, Nat.mod_mul, Nat.mul_comm (256 ^ k)]
    omega
theorem bytesOf_val (n : Nat) : numOf (bytesOf n) = n := by
  unfold bytesOf
  rw [low_val, Nat.mod_eq_of_lt (byteLen_lt n)]
theorem low_mod {k m : Nat} (h : k ≤ m) (n : Nat) : low k (n % 256 ^ m) = low k n := by
  refine List.ext_getElem? fun i => ?_
  by_cases hi : i < k
  · rw [low_get _ _ _ hi, low_get _ _ _ hi]
    congr 1
    apply UInt8.toNat_inj.1
    simp only [UInt8.toNat_ofNat']
    have e : (256 : Nat) ^ m = 256 ^ (k - 1 - i) * 256 ^ (m - (k - 1 - i)) := by rw [← Nat.pow_add]; congr 1; omega
    have e2 : (256 : Nat) ^ (m - (k - 1 - i)) = 256 * 256 ^ (m - (k - 1 - i) - 1) := by
      conv => lhs; rw [show m - (k - 1 - i) = (m - (k - 1 - i) - 1) + 1 by omega, Nat.pow_succ, Nat.mul_comm]
    rw [e, Nat.mod_mul_right_div_self, e2]
    show _ % 2 ^ 8 = _ % 2 ^ 8
    rw [show (2 : Nat) ^ 8 = 256 by decide, Nat.mod_mul_right_mod]
  · rw [List.getElem?_eq_none (by rw [low_len]; omega), List.getElem?_eq_none (by rw [low_len]; omega)]
theorem low_numOf (s : List UInt8) : low s.length (numOf s) = s := by
  induction s with
  | nil => rfl
  | cons b s ih =>
    rw [List.length_cons, low, numOf_cons]
    have h1 := numOf_lt s
    have h2 : b.toNat < 256 := b.toNat_lt
    have e1 : (b.toNat * 256 ^ s.length + numOf s) / 256 ^ s.length = b.toNat := by
      rw [Nat.mul_comm, Nat.mul_add_div (by exact Nat.pow_pos (by decide)), Nat.div_eq_of_lt h1, Nat.add_zero]
    have e2 : low s.length (b.toNat * 256 ^ s.length + numOf s) = low s.length (numOf s) := by
      rw [← low_mod (Nat.le_refl _), Nat.mul_comm, Nat.mul_add_mod, Nat.mod_eq_of_lt h1]
    rw [e1, e2, ih]
    congr 1
    exact UInt8.ofNat_toNat
theorem bytesOf_numOf {s : List UInt8} (h : s.head? ≠ some 0) : byteLen (numOf s) = s.length ∧ bytesOf (numOf s) = s := by
  have e : byteLen (numOf s) = s.length := by
    refine byteLen_eq (numOf_lt s) ?_
    cases s with
    | nil => exact .inl rfl
    | cons b s =>
      refine .inr ?_
      rw [List.length_cons, Nat.add_sub_cancel, numOf_cons]
      have : b ≠ 0 := fun e => h (by rw [e]; rfl)
      have : b.toNat ≠ 0 := fun e => this (UInt8.toNat_inj.1 (by rw [e]; rfl))
      have : 1 * 256 ^ s.length ≤ b.toNat * 256 ^ s.length := Nat.mul_le_mul_right _ (by omega)
      omega
  refine ⟨e, ?_⟩
  unfold bytesOf
  rw [e, low_numOf]
theorem bytesOf_head (n : Nat) : (bytesOf n).head? ≠ some 0 := by
  unfold bytesOf
  cases hk : byteLen n with
  | zero => simp [low]
  | succ k =>
    rw [low, List.head?_cons]
    intro e
    have e := congrArg UInt8.toNat (Option.some.inj e)
    have h1 := byteLen_ge n (by omega)
    have h2 := byteLen_lt n
    rw [hk] at h1 h2
    rw [Nat.add_sub_cancel] at h1
    have h3 : n / 256 ^ k < 256 := Nat.div_lt_of_lt_mul (by rw [Nat.pow_succ] at h2; exact h2)
    have h4 : 1 ≤ n / 256 ^ k := (Nat.one_le_div_iff (Nat.pow_pos (by decide))).2 h1
    have e : n / 256 ^ k % 2 ^ 8 = 0 := by simpa using e
    rw [Nat.mod_eq_of_lt h3] at e
    omega
theorem numOf_append (s t : List UInt8) : numOf (s ++ t) = numOf s * 256 ^ t.length + numOf t := by
  rw [numOf, List.foldl_append, foldl_val]; rfl
theorem numOf_snoc (s : List UInt8) (b : UInt8) : numOf (s ++ [b]) = numOf s * 256 + b.toNat := by
  rw [numOf_append, numOf_cons, numOf_nil]; simp
/-- From the end: one byte more at the front. -/
theorem numOf_drop {s : List UInt8} {i : Nat} {b : UInt8} (h : s[i]? = some b) : numOf (s.drop i) = b.toNat * 256 ^ (s.length - 1 - i) + numOf (s.drop (i + 1)) := by
  obtain ⟨hi, rfl⟩ := List.getElem?_eq_some_iff.1 h
  rw [← List.getElem_cons_drop hi, numOf_cons, List.length_drop]
  congr 3
  omega
end Go.Proofs.Ytmngjlgeojbghaa.VA
end
