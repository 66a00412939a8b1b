/- Calls of functions: what is handed over, what comes back. -/
import Derived.Test.YtjfnmlheehbojaaVaOps7
namespace Go.Proofs.Ytjfnmlheehbojaa.VA
section
variable {F : Fx} {I : Imm} {own : Nat → Option Loc} {σ : ASt} {a : Act} {w w' : World} {C : Cfg} {K : ASt → Prop} {Q : Exit → Act → World → Prop}

/-- A call turns what it was given, and makes new blocks. -/
theorem RI.called (h : RI F I own σ a w) {J : Imm} {gs : List Nat} (hgs : ∀ g, g ∈ gs → Free σ own g ∧ F.mine g) (hF : Fr w w' (· ∈ gs)) (hle : Imm.le I J) (hok : Imm.ok J w')
    (hnew : ∀ b o u, J b o = some u → I b o = some u ∨ w.heap.size ≤ b ∨ b ∈ gs) : RI F J own σ a w' := by
  have hbne : ∀ k cs, look σ.vars k = some cs → ∀ b, own b = some (.box k) → b ∉ gs := by
    intro k cs hk b hb e
    exact ((hgs b e).1 _ hb).2 k rfl
  have hcell : ∀ b, b < w.heap.size → b ∉ gs → ∀ o, w'.cell? ⟨b, o, none⟩ = w.cell? ⟨b, o, none⟩ := fun b hb hn o => World.cell?_of_block (hF.block b hb hn)
  have hfrz : ∀ b, b < w.heap.size → b ∉ gs → ∀ o, w'.frozen? ⟨b, o, none⟩ = w.frozen? ⟨b, o, none⟩ := fun b hb hn o => World.frozen?_of_block (hF.block b hb hn)
  have hnone : ∀ b, b < w.heap.size → b ∉ gs → ∀ o, I b o = none → J b o = none := by
    intro b hb hn o ho
    cases e : J b o with
    | none => rfl
    | some u =>
      rcases hnew b o u e with h1 | h1 | h1
      · rw [ho] at h1; cases h1
      · omega
      · exact (hn h1).elim
  have hconc : ∀ l' y, σ.at l' = some y → conc a w' l' = conc a w l' := by
    intro l' y hy
    cases l' with
    | cell k j =>
      cases hk : look σ.vars k with
      | none => simp only [ASt.at, hk, cellAt] at hy; cases hy
      | some cs =>
        obtain ⟨b, e1, e2, _, _⟩ := h.boxes k cs hk
        simp only [conc, e1, cellOf]
        exact hcell b (h.mine b _ e2).2 (hbne k cs hk b e2) j
    | _ => rfl
  exact {
    imm := hok
    base := h.base.trans hle
    inew := fun b o v hb => by
      rcases hnew b o v hb with h1 | h1 | h1
      · exact h.inew b o v h1
      · exact .inr (.inl (Nat.le_trans h.fr.size h1))
      · exact .inr (hgs b h1).2
    fr := fr_trans h.fr hF.os hF.tape hF.output hF.size fun k hk hp => hF.block k (Nat.lt_of_lt_of_le hk h.fr.size) fun e => by
      rcases (hgs k e).2 with e2 | e2
      · omega
      · exact hp e2
    mine := fun b l hb => ⟨(h.mine b l hb).1, Nat.lt_of_lt_of_le (h.mine b l hb).2 hF.size⟩
    defs := h.defs
    size := h.size
    slots := by
      intro l y hy
      obtain ⟨v, hv', hr⟩ := h.slots l y hy
      refine ⟨v, by rw [hconc l y hy]; exact hv', hr.keep hle (fun g' sh1 sz1 es1 cap1 e hg' hrow' => ⟨hg', ?_⟩) (fun l2 _ sh2 sz2 es2 he => ⟨⟨sh2, es2, he⟩, hconc l2 _ he⟩) (fun k off _ cs hk => ⟨⟨cs, hk⟩, rfl⟩)⟩
      have hne : g' ∉ gs := by
        intro e2
        subst e
        exact ((hgs g' e2).1 l hg').1 _ _ _ hy
      have hlt := (h.mine g' l hg').2
      exact hrow'.keep (fun _ h => h) hle (hnone g' hlt hne) (hcell g' hlt hne) (hfrz g' hlt hne)
    boxes := by
      intro k cs hk
      obtain ⟨b, f1, f2, f3, f4⟩ := h.boxes k cs hk
      have hne := hbne k cs hk b f2
      have hlt := (h.mine b _ f2).2
      refine ⟨b, f1, f2, fun o => hnone b hlt hne o (f3 o), fun j hj => ?_⟩
      rw [hcell b hlt hne, hfrz b hlt hne]
      exact f4 j hj
    quiet := h.quiet
    lk := h.lk.keep (fun _ _ _ h => h) (fun b k _ hb => hF.block b (h.mine b _ hb).2 fun e => ((hgs b e).1 _ hb).2 k rfl) fun k cs hk => ⟨⟨cs, hk⟩, rfl⟩ }

/-- Who owns the rows of a tuple. -/
def giveTup (own : Nat → Option Loc) (t : Nat → Loc) : Nat → List AV → List Value → Nat → Option Loc
  | j, .own _ _ _ :: as, v :: vs => giveTo (giveTup own t (j + 1) as vs) v (t j)
  | j, _ :: as, _ :: vs => giveTup own t (j + 1) as vs
  | _, _, _ => own

theorem giveTup_imm {own : Nat → Option Loc} {t : Nat → Loc} {j : Nat} {x : AV} {as : List AV} {v : Value} {vs : List Value} (hx : x.isImm = true) : giveTup own t j (x :: as) (v :: vs) = giveTup own t (j + 1) as vs := by
  cases x <;> first | rfl | cases hx

theorem vrep_cases {M : Nat → Prop} {x : AV} {v : Value} {gs : List Nat} (h : VRep M I w x v gs) : (∃ sh sz, x = .own sh sz [] ∧ v = .slice none 0 0 ∧ gs = []) ∨
    (∃ sh sz es g cap, x = .own sh sz es ∧ v = .slice (some ⟨g, 0, none⟩) es.length cap ∧ gs = [g] ∧ g < w.heap.size ∧ Row M I w g sh sz es cap) ∨ (x.isImm = true ∧ AR M I x v ∧ gs = []) := by
  by_cases hx : ∃ sh sz es, x = .own sh sz es
  · obtain ⟨sh, sz, es, rfl⟩ := hx
    rcases h with ⟨rfl, rfl, rfl⟩ | ⟨g, cap, h1, h2, h3, h4⟩
    · exact .inl ⟨sh, sz, rfl, rfl, rfl⟩
    · exact .inr (.inl ⟨sh, sz, es, g, cap, rfl, h1, h2, h3, h4⟩)
  · have h' : AR M I x v ∧ gs = [] := by
      cases x <;> first | exact h | exact (hx ⟨_, _, _, rfl⟩).elim
    exact .inr (.inr ⟨h'.1.imm, h'⟩)

theorem giveTup_out {M : Nat → Prop} (t : Nat → Loc) : ∀ (as : List AV) (vs : List Value) (gs : List Nat) (j : Nat), VReps M I w as vs gs → ∀ b, b ∉ gs → giveTup own t j as vs b = own b
  | [], [], gs, j, h, b, hb => rfl
  | x :: as, v :: vs, gs, j, h, b, hb => by
    obtain ⟨g1, g2, rfl, h1, h2⟩ := h
    have ih := giveTup_out t as vs g2 (j + 1) h2 b fun e => hb (List.mem_append_right _ e)
    rcases vrep_cases h1 with ⟨sh, sz, rfl, rfl, rfl⟩ | ⟨sh, sz, es, g, cap, rfl, rfl, rfl, _⟩ | ⟨hi, _, _⟩
    · exact ih
    · show giveTo (giveTup own t (j + 1) as vs) _ _ b = _
      rw [giveTo_ne _ _ _ _ _ _ fun e => hb (by simp [e])]; exact ih
    · rw [giveTup_imm hi]; exact ih
  | [], _ :: _, gs, j, h, b, hb => h.elim
  | _ :: _, [], gs, j, h, b, hb => h.elim
theorem giveTup_at {M : Nat → Prop} (t : Nat → Loc) : ∀ (as : List AV) (vs : List Value) (gs : List Nat) (j : Nat), VReps M I w as vs gs → gs.Nodup → ∀ (i : Nat) x, as[i]? = some x → ∃ v, vs[i]? = some v ∧
    ((∃ sh sz, x = .own sh sz [] ∧ v = .slice none 0 0) ∨ (∃ sh sz es g cap, x = .own sh sz es ∧ v = .slice (some ⟨g, 0, none⟩) es.length cap ∧ giveTup own t j as vs g = some (t (j + i)) ∧ Row M I w g sh sz es cap ∧ g ∈ gs) ∨ (x.isImm = true ∧ AR M I x v))
  | [], [], gs, j, h, hn, i, x, hx => by simp at hx
  | y :: as, u :: vs, gs, j, h, hn, i, x, hx => by
    obtain ⟨g1, g2, rfl, h1, h2⟩ := h
    have hn2 : g2.Nodup := (List.nodup_append.1 hn).2.1
    cases i with
    | zero =>
      cases hx
      refine ⟨u, rfl, ?_⟩
      rcases vrep_cases h1 with ⟨sh, sz, rfl, rfl, rfl⟩ | ⟨sh, sz, es, g, cap, rfl, rfl, rfl, _, hr⟩ | ⟨hi, ha, _⟩
      · exact .inl ⟨sh, sz, rfl, rfl⟩
      · exact .inr (.inl ⟨sh, sz, es, g, cap, rfl, rfl, giveTo_same _ g _ _ _, hr, by simp⟩)
      · exact .inr (.inr ⟨hi, ha⟩)
    | succ i =>
      obtain ⟨v, hv, hc⟩ := giveTup_at t as vs g2 (j + 1) h2 hn2 i x hx
      refine ⟨v, hv, ?_⟩
      rcases hc with hc | ⟨sh, sz, es, g, cap, e1, e2, e3, e4, e5⟩ | hc
      · exact .inl hc
      · refine .inr (.inl ⟨sh, sz, es, g, cap, e1, e2, ?_, e4, List.mem_append_right _ e5⟩)
        rw [show j + (i + 1) = j + 1 + i by omega]
        rcases vrep_cases h1 with ⟨sh, sz, rfl, rfl, rfl⟩ | ⟨sh', sz', es', g', cap', rfl, rfl, rfl, _, hr⟩ | ⟨hi, ha, _⟩
        · exact e3
        · show giveTo (giveTup own t (j + 1) as vs) _ _ g = _
          rw [giveTo_ne]
          · exact e3
          · intro e
            subst e
            simp only [List.singleton_append, List.nodup_cons] at hn
            exact hn.1 e5
        · rw [giveTup_imm hi]; exact e3
      · exact .inr (.inr hc)
  | [], _ :: _, gs, j, h, hn, i, x, hx => h.elim
  | _ :: _, [], gs, j, h, hn, i, x, hx => h.elim
theorem giveTup_some {M : Nat → Prop} (t : Nat → Loc) {as : List AV} {vs : List Value} {gs : List Nat} {j : Nat} (h : VReps M I w as vs gs) {b : Nat} {l : Loc} (hb : giveTup own t j as vs b = some l) : own b = some l ∨ b ∈ gs := by
  by_cases e : b ∈ gs
  · exact .inr e
  · rw [giveTup_out t as vs gs j h b e] at hb; exact .inl hb
theorem vreps_len {M : Nat → Prop} : ∀ (as : List AV) (vs : List Value) (gs : List Nat), VReps M I w as vs gs → as.length = vs.length ∧ ∀ g, g ∈ gs → g < w.heap.size
  | [], [], gs, h => ⟨rfl, fun g hg => by rw [show gs = [] from h] at hg; cases hg⟩
  | x :: as, v :: vs, gs, h => by
    obtain ⟨g1, g2, rfl, h1, h2⟩ := h
    obtain ⟨k1, k2⟩ := vreps_len as vs g2 h2
    refine ⟨by simp [k1], fun g hg => ?_⟩
    rcases List.mem_append.1 hg with hg | hg
    · rcases vrep_cases h1 with ⟨sh, sz, rfl, rfl, rfl⟩ | ⟨sh', sz', es', g', cap', rfl, rfl, rfl, hlt, hr⟩ | ⟨hi, ha, rfl⟩
      · cases hg
      · simp only [List.mem_singleton] at hg; subst hg; exact hlt
      · cases hg
    · exact k2 g hg
  | [], _ :: _, gs, h => h.elim
  | _ :: _, [], gs, h => h.elim

/-- A temporary is given a tuple. -/
theorem RI.putTup (h0 : RI F I own σ a w) {t : Nat} (ht : F.C.may t = true) (hv : look σ.vars t = none) {as : List AV} {vs : List Value} {gs : List Nat} (hrep : VReps F.mine I w as vs gs) (hnd : gs.Nodup)
    (hfree0 : ∀ g, g ∈ gs → Free σ own g ∧ F.mine g) : RI F I (giveTup own (Loc.comp t) 0 as vs) { σ with tmps := ins t (.tup as) (VA.strike (AV.leansComp t) σ.tmps) } (a.put (some t) (.tuple vs.toArray)) w := by
  have h := h0.strike (AV.leansComp t)
  have hfree : ∀ g, g ∈ gs → Free { σ with tmps := VA.strike (AV.leansComp t) σ.tmps } own g ∧ F.mine g := by
    refine fun g hg => ⟨fun l hl => ⟨fun sh sz es he => ?_, ((hfree0 g hg).1 l hl).2⟩, (hfree0 g hg).2⟩
    obtain ⟨x0, e0, rfl | e1⟩ := at_strike _ σ l _ he
    · exact ((hfree0 g hg).1 l hl).1 _ _ _ e0
    · cases e1
  have hnl : ∀ l y, ASt.at { σ with tmps := VA.strike (AV.leansComp t) σ.tmps } l = some y → ∀ j, y.leans (.comp t j) = false := by
    intro l y hy j
    by_cases e : ∃ i, l = .tmp i
    · obtain ⟨i, rfl⟩ := e
      simp only [ASt.at, look_strike] at hy
      cases hl : look σ.tmps i with
      | none => rw [hl] at hy; cases hy
      | some z =>
        rw [hl] at hy
        simp only [Option.map_some, Option.some.injEq] at hy
        subst hy
        split
        · rfl
        · rename_i hz
          cases z <;> try rfl
          case ref l' =>
            cases l' <;> simp [AV.leans, AV.leansComp] at hz ⊢
            intro e _; exact (hz e).elim
          case elt x i' off =>
            cases x <;> try rfl
            rename_i l'
            cases l' <;> simp [AV.leans, AV.leansComp] at hz ⊢
            intro e _; exact (hz e).elim
    · exact (h.quiet l y hy fun i e' => e ⟨i, e'⟩).1 _
  show RI F I _ (ASt.put { σ with tmps := VA.strike (AV.leansComp t) σ.tmps } t (.tup as)) _ w
  generalize hσ : ({ σ with tmps := VA.strike (AV.leansComp t) σ.tmps } : ASt) = σ1 at *
  have hv1 : look σ1.vars t = none := by rw [← hσ]; exact hv
  clear h0 hfree0 hσ hv
  have hsz : t < a.tmps.size := by rw [h.size]; exact may_lt ht
  have hk : ∀ k cs, look σ1.vars k = some cs → k ≠ t := fun k cs hk e => by rw [e, hv1] at hk; cases hk
  have hat : ∀ l y, (σ1.put t (.tup as)).at l = some y → l ≠ .tmp t → (∀ j, l ≠ .comp t j) → σ1.at l = some y ∧ (∀ j, l ≠ .cell t j) := by
    intro l y hy h1 h2
    rw [at_put_ne σ1 t _ l h1 h2] at hy
    refine ⟨hy, fun j e => ?_⟩
    subst e
    simp only [ASt.at, hv1, cellAt] at hy; cases hy
  have hkeep : ∀ g l, own g = some l → ((∃ sh sz es, σ1.at l = some (.own sh sz es)) ∨ ∃ k cs, l = .box k ∧ look σ1.vars k = some cs) → giveTup own (Loc.comp t) 0 as vs g = some l := by
    intro g l hg hl
    rw [giveTup_out (Loc.comp t) as vs gs 0 hrep g fun e => ?_]
    · exact hg
    · obtain ⟨h1, h2⟩ := (hfree g e).1 l hg
      rcases hl with ⟨sh, sz, es, hl⟩ | ⟨k, cs, rfl, hl⟩
      · exact h1 sh sz es hl
      · exact h2 k rfl
  have hcomp : ∀ j x, as[j]? = some x → ∃ v, vs[j]? = some v ∧ ∀ {σ' : ASt} {a' : Act}, SRep F I (giveTup own (Loc.comp t) 0 as vs) σ' a' w (.comp t j) x v := by
    intro j x hx
    obtain ⟨v, hv, hc⟩ := giveTup_at (own := own) (Loc.comp t) as vs gs 0 hrep hnd j x hx
    refine ⟨v, hv, ?_⟩
    rcases hc with ⟨sh, sz, rfl, rfl⟩ | ⟨sh, sz, es, g, cap, rfl, rfl, hg, hr, _⟩ | ⟨hi, ha⟩
    · exact .inl ⟨rfl, rfl⟩
    · exact .inr ⟨g, cap, rfl, by rw [hg, Nat.zero_add], hr⟩
    · exact (srep_imm hi).2 ha
  exact {
    imm := h.imm
    base := h.base
    inew := h.inew
    fr := h.fr
    mine := fun b l hb => by
      rcases giveTup_some (Loc.comp t) hrep hb with e | e
      · exact h.mine b l e
      · exact ⟨(hfree b e).2, (vreps_len as vs gs hrep).2 b e⟩
    defs := defs_put h.defs ht
    size := by simp [Act.put, h.size]
    slots := by
      intro l y hy
      by_cases h1 : l = .tmp t
      · subst h1
        simp only [ASt.at, look_put, if_true, Option.some.injEq] at hy
        subst hy
        exact ⟨_, tmp_put_same a t _ hsz, vs.toArray, rfl, by simp [(vreps_len as vs gs hrep).1]⟩
      · by_cases h2 : ∃ j, l = .comp t j
        · obtain ⟨j, rfl⟩ := h2
          simp only [ASt.at, look_put, if_true, AV.compAt] at hy
          obtain ⟨v, hv, hr⟩ := hcomp j y hy
          refine ⟨v, ?_, hr⟩
          simp only [conc, tmp_put_same a t _ hsz, compOf]
          simpa using hv
        · have h2' : ∀ j, l ≠ .comp t j := fun j e => h2 ⟨j, e⟩
          obtain ⟨hy', h3⟩ := hat l y hy h1 h2'
          obtain ⟨v', hc, hr⟩ := h.slots l y hy'
          refine ⟨v', by rw [conc_put_ne a w t _ l h1 h2' h3]; exact hc, hr.keep (Imm.leRefl I) (fun g sh' sz' es' cap e hg hrow => ⟨?_, hrow⟩) (fun l' hl' sh' sz' es' he => ?_) (fun k off _ cs hc => ?_)⟩
          · subst e
            exact hkeep g l hg (.inl ⟨_, _, _, hy'⟩)
          · have hne1 : l' ≠ .tmp t := by
              intro e; subst e
              simp only [ASt.at, look_put, if_true, Option.some.injEq] at he; cases he
            have hne2 : ∀ j, l' ≠ .comp t j := by
              intro j e; subst e
              rw [hnl l y hy' j] at hl'; cases hl'
            obtain ⟨he', h3'⟩ := hat l' _ he hne1 hne2
            exact ⟨⟨sh', es', he'⟩, conc_put_ne a w t _ l' hne1 hne2 h3'⟩
          · exact ⟨⟨cs, hc⟩, tmp_put_ne a t k _ (hk k cs hc)⟩
    boxes := by
      intro k cs hc
      obtain ⟨b, h1, h2, h3, h4⟩ := h.boxes k cs hc
      exact ⟨b, by rw [tmp_put_ne a t k _ (hk k cs hc)]; exact h1, hkeep b _ h2 (.inr ⟨k, cs, rfl, hc⟩), h3, h4⟩
    quiet := by
      intro l y hy hl
      by_cases h2 : ∃ j, l = .comp t j
      · obtain ⟨j, rfl⟩ := h2
        simp only [ASt.at, look_put, if_true, AV.compAt] at hy
        obtain ⟨v, hv, hc⟩ := giveTup_at (own := own) (Loc.comp t) as vs gs 0 hrep hnd j y hy
        rcases hc with ⟨sh, sz, rfl, rfl⟩ | ⟨sh, sz, es, g, cap, rfl, rfl, hg, hr, _⟩ | ⟨hi, ha⟩
        · exact ⟨fun _ => rfl, fun _ => rfl⟩
        · exact ⟨fun _ => rfl, fun _ => rfl⟩
        · exact imm_quiet hi
      · exact h.quiet l y (hat l y hy (hl t) fun j e => h2 ⟨j, e⟩).1 hl
    lk := h.lk.keep (fun b k _ hb => by
      rw [giveTup_out (Loc.comp t) as vs gs 0 hrep b fun e => ((hfree b e).1 _ hb).2 k rfl]
      exact hb) (fun _ _ _ _ => rfl) fun k cs hc => ⟨⟨cs, hc⟩, tmp_put_ne a t k _ (hk k cs hc)⟩ }

/-- A place given up bears no more than before. -/
theorem at_drop (σ : ASt) (l l' : Loc) (sh : Bool) (sz : Nat) (es : List AV) (h : (σ.drop l).at l' = some (.own sh sz es)) : σ.at l' = some (.own sh sz es) := by
  cases l with
  | tmp t =>
    by_cases h1 : l' = .tmp t
    · subst h1; simp only [ASt.drop, ASt.at, look_put, if_true, Option.some.injEq] at h; cases h
    · by_cases h2 : ∃ j, l' = .comp t j
      · obtain ⟨j, rfl⟩ := h2
        simp only [ASt.drop, ASt.at, look_put, if_true, AV.compAt] at h; cases h
      · rw [show σ.drop (.tmp t) = σ.put t .bot from rfl, at_put_ne σ t _ l' h1 fun j e => h2 ⟨j, e⟩] at h
        exact h
  | cell k j =>
    simp only [ASt.drop, ASt.setCell] at h
    cases hk : look σ.vars k with
    | none => rw [hk] at h; exact h
    | some cs =>
      rw [hk] at h
      simp only [ASt.setCellO] at h
      cases l' with
      | cell k' j' =>
        simp only [ASt.at, look_ins] at h ⊢
        by_cases e : k' = k
        · subst e
          simp only [if_true, cellAt, hk] at h ⊢
          rw [List.getElem?_set] at h
          split at h
          · split at h <;> cases h
          · exact h
        · simp only [e, if_false] at h; exact h
      | _ => exact h
  | comp t j =>
    simp only [ASt.drop] at h
    cases ht : look σ.tmps t with
    | none => rw [ht] at h; exact h
    | some y =>
      rw [ht] at h
      cases y <;> simp only [ASt.dropComp] at h <;> try exact h
      rename_i vs
      cases l' with
      | tmp t' =>
        simp only [ASt.at, look_ins] at h ⊢
        by_cases e : t' = t
        · subst e; simp only [if_true, Option.some.injEq] at h; cases h
        · simp only [e, if_false] at h; exact h
      | comp t' j' =>
        simp only [ASt.at, look_ins] at h ⊢
        by_cases e : t' = t
        · subst e
          simp only [if_true, AV.compAt, ht] at h ⊢
          rw [List.getElem?_set] at h
          split at h
          · split at h <;> cases h
          · exact h
        · simp only [e, if_false] at h; exact h
      | _ => exact h
  | box k => exact h
theorem drop_none {l : Loc} {k : Nat} (hk : look σ.vars k = none) : look (σ.drop l).vars k = none := by
  cases l with
  | tmp t => exact hk
  | cell k' j =>
    simp only [ASt.drop, ASt.setCell]
    cases hk' : look σ.vars k' with
    | none => exact hk
    | some cs0 =>
      simp only [ASt.setCellO, look_ins]
      by_cases e : k = k'
      · subst e; rw [hk] at hk'; cases hk'
      · simp only [e, if_false]; exact hk
  | comp t j =>
    simp only [ASt.drop]
    cases ht : look σ.tmps t with
    | none => exact hk
    | some y => cases y <;> exact hk
  | box k => exact hk
theorem Free.drop {g : Nat} (h : Free σ own g) (l : Loc) : Free (σ.drop l) own g := fun l' hl' => ⟨fun sh sz es he => (h l' hl').1 sh sz es (at_drop σ l l' sh sz es he), (h l' hl').2⟩

theorem vrep_imm {M : Nat → Prop} {x : AV} {v : Value} (h : AR M I x v) : VRep M I w x v [] := by
  have hi := h.imm
  cases x <;> first | exact ⟨h, rfl⟩ | cases hi
theorem vrep_nil {M : Nat → Prop} (sh : Bool) (sz : Nat) : VRep M I w (.own sh sz []) (.slice none 0 0) [] := .inl ⟨rfl, rfl, rfl⟩
theorem vrep_row {M : Nat → Prop} {sh : Bool} {sz : Nat} {es : List AV} {g cap : Nat} (hlt : g < w.heap.size) (hr : Row M I w g sh sz es cap) : VRep M I w (.own sh sz es) (.slice (some ⟨g, 0, none⟩) es.length cap) [g] := .inr ⟨g, cap, rfl, rfl, hlt, hr⟩
theorem vreps_snoc {M : Nat → Prop} {x : AV} {v : Value} {g : List Nat} (hx : VRep M I w x v g) : ∀ (as : List AV) (vs : List Value) (gs : List Nat), VReps M I w as vs gs → VReps M I w (as ++ [x]) (vs ++ [v]) (gs ++ g)
  | [], [], gs, h => by
    rw [show gs = [] from h]
    exact ⟨g, [], by simp, hx, rfl⟩
  | y :: as, u :: vs, gs, h => by
    obtain ⟨g1, g2, rfl, h1, h2⟩ := h
    exact ⟨g1, g2 ++ g, by simp, h1, vreps_snoc hx as vs g2 h2⟩
  | [], _ :: _, gs, h => h.elim
  | _ :: _, [], gs, h => h.elim
theorem VRep.keep {M N : Nat → Prop} {J : Imm} {x : AV} {v : Value} {gs : List Nat} (h : VRep M I w x v gs) (hM : ∀ b, M b → N b) (hI : Imm.le I J) (hn : ∀ g, g ∈ gs → ∀ o, J g o = I g o) : VRep N J w x v gs := by
  rcases vrep_cases h with ⟨sh, sz, rfl, rfl, rfl⟩ | ⟨sh, sz, es, g, cap, rfl, rfl, rfl, hlt, hr⟩ | ⟨hi, ha, rfl⟩
  · exact .inl ⟨rfl, rfl, rfl⟩
  · exact .inr ⟨g, cap, rfl, rfl, hlt, hr.keep hM hI (fun o ho => by rw [hn g (by simp)]; exact ho) (fun _ => rfl) (fun _ => rfl)⟩
  · exact vrep_imm (ha.mono hM hI)
theorem VReps.keep {M N : Nat → Prop} {J : Imm} (hM : ∀ b, M b → N b) (hI : Imm.le I J) : ∀ (as : List AV) (vs : List Value) (gs : List Nat), VReps M I w as vs gs → (∀ g, g ∈ gs → ∀ o, J g o = I g o) → VReps N J w as vs gs
  | [], [], gs, h, _ => h
  | y :: as, u :: vs, gs, h, hn => by
    obtain ⟨g1, g2, rfl, h1, h2⟩ := h
    exact ⟨g1, g2, rfl, h1.keep hM hI fun g hg => hn g (List.mem_append_left _ hg), VReps.keep hM hI as vs g2 h2 fun g hg => hn g (List.mem_append_right _ hg)⟩
  | [], _ :: _, gs, h, _ => h.elim
  | _ :: _, [], gs, h, _ => h.elim

/-- What a tuple's parts are. -/
theorem tup_parts (h : RI F I own σ a w) {i : Nat} {vs : List AV} (hl : look σ.tmps i = some (.tup vs)) {arr : Array Value} (ha : a.tmps[i]? = some (.tuple arr)) (hs : arr.size = vs.length) (hk : vs.all (fun v => v.isImm || v.isOwn) = true) :
    ∀ (n k : Nat), n + k = vs.length → ∃ gs, VReps F.mine I w (vs.drop k) (arr.toList.drop k) gs ∧ gs.Nodup ∧ ∀ g, g ∈ gs → ∃ j, k ≤ j ∧ own g = some (.comp i j)
  | 0, k, hn => ⟨[], by rw [List.drop_eq_nil_of_le (by omega), List.drop_eq_nil_of_le (by simp; omega)]; exact rfl, List.nodup_nil, fun g hg => by cases hg⟩
  | n + 1, k, hn => by
    obtain ⟨gs, h1, h2, h3⟩ := tup_parts h hl ha hs hk n (k + 1) (by omega)
    have hkl : k < vs.length := by omega
    have hka : k < arr.toList.length := by simp; omega
    rw [List.drop_eq_getElem_cons hkl, List.drop_eq_getElem_cons hka]
    obtain ⟨v, hv, hr⟩ := h.slots (.comp i k) vs[k] (by simp only [ASt.at, hl, AV.compAt]; exact List.getElem?_eq_getElem hkl)
    simp only [conc, ha, compOf] at hv
    have hv' : arr.toList[k] = v := by
      have : arr.toList[k]? = some v := by rw [Array.getElem?_toList]; exact hv
      rw [List.getElem?_eq_getElem hka] at this
      exact Option.some.inj this
    rw [hv']
    have hkk := List.all_eq_true.1 hk vs[k] (List.getElem_mem hkl)
    simp only [Bool.or_eq_true] at hkk
    rcases hkk with hi | ho
    · exact ⟨[] ++ gs, ⟨[], gs, rfl, vrep_imm ((srep_imm hi).1 hr), h1⟩, by simpa using h2, fun g hg => by
        obtain ⟨j, e1, e2⟩ := h3 g (by simpa using hg)
        exact ⟨j, by omega, e2⟩⟩
    · generalize vs[k] = x at *
      cases x <;> try cases ho
      rename_i sh sz es
      rcases hr with ⟨rfl, rfl⟩ | ⟨g, cap, rfl, hg, hrow⟩
      · exact ⟨[] ++ gs, ⟨[], gs, rfl, .inl ⟨rfl, rfl, rfl⟩, h1⟩, by simpa using h2, fun g hg => by
          obtain ⟨j, e1, e2⟩ := h3 g (by simpa using hg)
          exact ⟨j, by omega, e2⟩⟩
      · refine ⟨[g] ++ gs, ⟨[g], gs, rfl, .inr ⟨g, cap, rfl, rfl, (h.mine g _ hg).2, hrow⟩, h1⟩, ?_, fun g' hg' => ?_⟩
        · rw [List.singleton_append, List.nodup_cons]
          refine ⟨fun e => ?_, h2⟩
          obtain ⟨j, e1, e2⟩ := h3 g e
          rw [hg] at e2
          cases e2
          omega
        · rw [List.singleton_append, List.mem_cons] at hg'
          rcases hg' with rfl | hg'
          · exact ⟨k, Nat.le_refl _, hg⟩
          · obtain ⟨j, e1, e2⟩ := h3 g' hg'
            exact ⟨j, by omega, e2⟩

theorem op_move (hC : F.C = C) (h : RI F I own σ a w) {P : Program} {dst : Option Tmp} {x : Operand} {ty : TypeId} {pos : String} {after : Array Edge} {g : Option (Nat × Bool)}
    (hw : (opR C σ dst ty (.move x)).wp C K) : Quiet F I P ⟨dst, .move x, ty, pos, after, g⟩ a w (Post F K) := by
  refine by_q (v := a.eval x) (fun _ _ => rfl) ?_
  simp only [opR] at hw
  have hx := rd_ok h C ty x
  by_cases hb : σ.rd C ty x = .bot
  · rw [hb] at hw
    cases x <;> simp only [moveR] at hw <;> try exact hw.elim
    rename_i i
    cases dst with
    | none => exact hw.elim
    | some t =>
      cases hl : look σ.tmps i with
      | none => rw [hl] at hw; exact hw.elim
      | some y =>
        rw [hl] at hw
        cases y <;> simp only [moveTup] at hw <;> try exact hw.elim
        rename_i vs
        have hchk := chk_ok hw
        clear hw
        obtain ⟨hc, hw⟩ := hchk
        simp only [Bool.and_eq_true, Option.isNone_iff_eq_none] at hc
        obtain ⟨v, hv, arr, rfl, hs⟩ := h.slots (.tmp i) _ hl
        simp only [conc] at hv
        obtain ⟨gs, h1, h2, h3⟩ := tup_parts h hl hv hs hc.2 vs.length 0 rfl
        simp only [List.drop_zero] at h1
        have hd : RI F I own (σ.put i .bot) a w := by
          rcases h.drop (.tmp i) with hd | ⟨t', e, ht'⟩
          · exact hd
          · cases e; rw [hl] at ht'; cases ht'
        have he : a.eval (.tmp i) = .tuple arr.toList.toArray := by
          simp only [Act.eval, Array.getD_eq_getD_getElem?, hv, Option.getD_some]
        rw [he]
        refine ⟨I, _, _, hd.putTup (by rw [hC]; exact hc.1.1) hc.1.2 h1 h2 fun g hg => ?_, hw⟩
        obtain ⟨j, _, e⟩ := h3 g hg
        refine ⟨fun l hl' => ?_, (h.mine g _ e).1⟩
        rw [e] at hl'
        cases hl'
        refine ⟨fun sh sz es hat => ?_, fun k e2 => by cases e2⟩
        simp only [ASt.at, look_put, if_true, AV.compAt] at hat
        cases hat
  · have hw' : (σ.wr C dst (σ.rd C ty x)).wp C K := by
      revert hw hb
      generalize σ.rd C ty x = y
      intro hw hb
      cases y <;> first | exact absurd rfl hb | exact hw
    exact wr_rv hC h hw' hx

/-- Arguments in hand. -/
structure Args (F : Fx) (I : Imm) (own : Nat → Option Loc) (σ : ASt) (a : Act) (w : World) (as : List AV) (vs : List Value) (gs : List Nat) : Prop where
  ri : RI F I own σ a w
  reps : VReps F.mine I w as vs gs
  nodup : gs.Nodup
  free : ∀ g, g ∈ gs → Free σ own g ∧ F.mine g

theorem arg_own {x : AV} {v : Value} {acc as : List AV} {vs : List Value} {gs : List Nat} {τ : ASt} (h : Args F I own σ a w acc vs gs) (hx : RV F I own σ a w x v) (he : argOwn σ acc x = some (as, τ)) :
    ∃ gs', Args F I own τ a w as (vs ++ [v]) gs' := by
  unfold argOwn at he
  split at he
  · rename_i sh sz
    cases he
    obtain ⟨_, _, rfl⟩ := hx
    exact ⟨gs ++ [], h.ri, vreps_snoc (vrep_nil _ _) _ _ _ h.reps, by simpa using h.nodup, by simpa using h.free⟩
  · rename_i l
    cases hl : σ.at l with
    | none => rw [hl] at he; cases he
    | some q =>
      rw [hl] at he
      cases q <;> simp only [argOwnRef] at he <;> try cases he
      rename_i sh sz es
      obtain ⟨u, k1, k2, k3⟩ := h.ri.inHand hl
      have hv : conc a w l = some v := hx sh sz es hl
      rw [k1] at hv
      cases hv
      rcases k3 with ⟨rfl, rfl⟩ | ⟨g, cap, rfl, kf, km, klt, kr⟩
      · exact ⟨gs ++ [], k2, vreps_snoc (vrep_nil _ _) _ _ _ h.reps, by simpa using h.nodup, fun g hg => ⟨((h.free g (by simpa using hg)).1).drop l, (h.free g (by simpa using hg)).2⟩⟩
      · have hown : own g = some l := by
          obtain ⟨v', hv', hr⟩ := h.ri.slots l _ hl
          rw [k1] at hv'
          cases hv'
          rcases hr with ⟨e, _⟩ | ⟨g', cap', e, hg', _⟩
          · cases e
          · cases e; exact hg'
        have hng : g ∉ gs := fun e => ((h.free g e).1 l hown).1 _ _ _ hl
        refine ⟨gs ++ [g], k2, vreps_snoc (vrep_row klt kr) _ _ _ h.reps, ?_, fun g' hg' => ?_⟩
        · rw [List.nodup_append]
          refine ⟨h.nodup, by simp, fun p hp q hq e => ?_⟩
          rw [List.mem_singleton] at hq
          rw [e, hq] at hp
          exact hng hp
        · rcases List.mem_append.1 hg' with e | e
          · exact ⟨((h.free g' e).1).drop l, (h.free g' e).2⟩
          · simp only [List.mem_singleton] at e
            subst e
            exact ⟨kf, km⟩
  · cases he

theorem args_ok {op : List Nat} : ∀ (xs : List Operand) (ts : List TypeId) (i : Nat) (acc : List AV) (σ : ASt) (I : Imm) (vs : List Value) (gs : List Nat), Args F I own σ a w acc vs gs →
    ∀ as τ, argsGo C op i xs ts (some (acc, σ)) = some (as, τ) → ∃ J gs', Imm.le I J ∧ Args F J own τ a w as (vs ++ xs.map a.eval) gs'
  | [], ts, i, acc, σ, I, vs, gs, h, as, τ, he => by
    cases he
    exact ⟨I, gs, Imm.leRefl I, by simpa using h⟩
  | x :: xs, ts, i, acc, σ, I, vs, gs, h, as, τ, he => by
    rw [argsGo] at he
    have hx := rd_ok h.ri C (ts.headD 0) x
    have step : ∀ {J : Imm} {acc1 : List AV} {τ1 : ASt} {gs1 : List Nat}, Imm.le I J → Args F J own τ1 a w acc1 (vs ++ [a.eval x]) gs1 → argsGo C op (i + 1) xs ts.tail (some (acc1, τ1)) = some (as, τ) →
        ∃ J gs', Imm.le I J ∧ Args F J own τ a w as (vs ++ (x :: xs).map a.eval) gs' := by
      intro J acc1 τ1 gs1 hle h1 h2
      obtain ⟨J2, gs2, l2, h3⟩ := args_ok xs ts.tail (i + 1) acc1 τ1 J _ gs1 h1 as τ h2
      exact ⟨J2, gs2, hle.trans l2, by simpa using h3⟩
    split at he
    · cases ha : argOwn σ acc (σ.rd C (ts.headD 0) x) with
      | none => rw [ha] at he; cases xs <;> cases he
      | some q =>
        obtain ⟨acc1, τ1⟩ := q
        rw [ha] at he
        obtain ⟨gs1, h1⟩ := arg_own h hx ha
        exact step (Imm.leRefl I) h1 he
    · cases ha : σ.imm (σ.rd C (ts.headD 0) x) with
      | none => rw [ha] at he; cases xs <;> cases he
      | some q =>
        obtain ⟨y, τ1⟩ := q
        rw [ha] at he
        obtain ⟨J, j1, j2, j3, j4⟩ := imm_okMore h.ri hx ha
        refine step (J := J) (gs1 := gs ++ []) j1 ⟨j2, ?_, by simpa using h.nodup, fun g hg => ?_⟩ he
        · exact vreps_snoc (vrep_imm j3) _ _ _ (VReps.keep (fun _ h => h) j1 _ _ _ h.reps fun g hg => (j4 g (h.free g hg).1).2)
        · exact ⟨(j4 g (h.free g (by simpa using hg)).1).1, (h.free g (by simpa using hg)).2⟩

theorem Dull.imm {x y : AV} (h : Dull x y) (hx : ∀ sh sz es, x ≠ .own sh sz es) : ∀ sh sz es, y ≠ .own sh sz es := by
  cases h with
  | refl => exact hx
  | agg => intro _ _ _ e; cases e
  | sl => intro _ _ _ e; cases e
  | nil => intro _ _ _ e; cases e
theorem vrep_dull {M : Nat → Prop} {x y : AV} {v : Value} {gs : List Nat} (hd : Dull x y) (h : VRep M I w x v gs) : VRep (fun _ => True) I w y v gs := by
  rcases vrep_cases h with ⟨sh, sz, rfl, rfl, rfl⟩ | ⟨sh, sz, es, g, cap, rfl, rfl, rfl, hlt, hr⟩ | ⟨hi, ha, rfl⟩
  · cases hd; exact .inl ⟨rfl, rfl, rfl⟩
  · cases hd; exact .inr ⟨g, cap, rfl, rfl, hlt, hr.keep (fun _ _ => trivial) (Imm.leRefl I) (fun _ h => h) (fun _ => rfl) (fun _ => rfl)⟩
  · exact vrep_imm ((ha.mono (fun _ _ => trivial) (Imm.leRefl I)).dull hd)
theorem vreps_dull {M : Nat → Prop} : ∀ (as bs : List AV) (vs : List Value) (gs : List Nat), Dulls as bs → VReps M I w as vs gs → VReps (fun _ => True) I w bs vs gs
  | [], _, [], gs, hd, h => by cases hd; exact h
  | y :: as, _, u :: vs, gs, hd, h => by
    cases hd with
    | cons h1 h2 =>
      obtain ⟨g1, g2, rfl, k1, k2⟩ := h
      exact ⟨g1, g2, rfl, vrep_dull h1 k1, vreps_dull as _ vs g2 h2 k2⟩
  | [], _, _ :: _, gs, hd, h => h.elim
  | _ :: _, _, [], gs, hd, h => h.elim

/-- A call's result goes to its temporary. -/
theorem res_ok (hC : F.C = C) (h : RI F I own σ a w) {d : Option Nat} {res : AV} {v : Value} {gs : List Nat} (hr : RRep F.mine I w res v gs) (hnd : gs.Nodup) (hfree : ∀ g, g ∈ gs → Free σ own g ∧ F.mine g)
    {τ : ASt} (hw : σ.wrRes C d res = .ok τ) (hk : K τ) : Post F K (a.put d v) w := by
  unfold ASt.wrRes at hw
  cases d with
  | none => cases hw; exact ⟨I, own, _, h, hk⟩
  | some t =>
    simp only at hw
    unfold R.chk at hw
    split at hw
    · rename_i hc
      simp only [Bool.and_eq_true, Option.isNone_iff_eq_none] at hc
      have ht : F.C.may t = true := by rw [hC]; exact hc.1
      unfold ASt.wrResTo at hw
      split at hw
      · rename_i sh sz es
        cases hw
        refine ⟨I, _, _, h.putOwn ht hc.2 (v := v) ?_, hk⟩
        rcases vrep_cases (show VRep F.mine I w (.own sh sz es) v gs from hr) with ⟨sh, sz, e, rfl, rfl⟩ | ⟨sh, sz, es, g, cap, e, rfl, rfl, hlt, hr⟩ | ⟨hi, ha, rfl⟩
        · cases e; exact .inl ⟨rfl, rfl⟩
        · cases e; exact .inr ⟨g, cap, rfl, (hfree g (by simp)).1, (hfree g (by simp)).2, hlt, hr⟩
        · cases hi
      · rename_i vs
        cases hw
        obtain ⟨us, rfl, hr⟩ := hr
        exact ⟨I, _, _, h.putTup ht hc.2 hr hnd hfree, hk⟩
      · rename_i h1 h2
        unfold R.chk at hw
        split at hw
        · rename_i hi
          cases hw
          have hv : VRep F.mine I w res v gs := by
            cases res <;> first | exact hr | exact (h2 _ rfl).elim
          have ha : AR F.mine I res v := by
            rcases vrep_cases hv with ⟨sh, sz, rfl, rfl, rfl⟩ | ⟨sh, sz, es, g, cap, rfl, rfl, rfl, hlt, hr⟩ | ⟨hi, ha, rfl⟩
            · cases hi
            · cases hi
            · exact ha
          exact ⟨I, own, _, h.put ht hc.2 (fun _ _ _ e => h1 _ _ _ e) (fun _ e => h2 _ e) ((srep_imm hi).2 ha), hk⟩
        · cases hw
    · cases hw

theorem call_ok (hC : F.C = C) {dst : Option Nat} {f : FuncId} {as : List AV} {vs : List Value} {gs : List Nat} (h : Args F I own σ a w as vs gs) {bs : List AV} {res : AV} (hd : Dulls as bs) (hct : Contract C.P f bs res) {τ : ASt} (hr : σ.wrRes C dst res = .ok τ) (hk : K τ) :
    Calls C.P f vs.toArray w fun e w' => ∃ v, e = .returned v ∧ Post F K (a.put dst v) w' := by
  refine (hct.calls I w vs gs h.ri.imm (vreps_dull as bs vs gs hd h.reps) h.nodup).mono fun e w' hq => ?_
  obtain ⟨v, J, gs', rfl, q1, q2, q3, q4, q5, q6, q7⟩ := hq
  have hri := h.ri.called h.free q3 q1 q2 q4
  have hmine : ∀ b, w.heap.size ≤ b ∨ b ∈ gs → F.mine b := by
    intro b hb
    rcases hb with hb | hb
    · exact .inl (Nat.le_trans h.ri.fr.size hb)
    · exact (h.free b hb).2
  have hfree : ∀ g, g ∈ gs' → Free σ own g ∧ F.mine g := by
    intro g hg
    refine ⟨?_, hmine g (q7 g hg).1⟩
    rcases (q7 g hg).1 with e | e
    · intro l hl
      rw [h.ri.own_new e] at hl; cases hl
    · exact (h.free g e).1
  have hres : RRep F.mine J w' res v gs' := by
    by_cases ht : ∃ rs, res = .tup rs
    · obtain ⟨rs, rfl⟩ := ht
      obtain ⟨us, e1, e2⟩ := q5
      exact ⟨us, e1, VReps.keep hmine (Imm.leRefl J) _ _ _ e2 fun _ _ _ => rfl⟩
    · have e1 : VRep (fun b => w.heap.size ≤ b ∨ b ∈ gs) J w' res v gs' := by
        cases res <;> first | exact q5 | exact (ht ⟨_, rfl⟩).elim
      have e2 := e1.keep hmine (Imm.leRefl J) fun _ _ _ => rfl
      cases res <;> first | exact e2 | exact (ht ⟨_, rfl⟩).elim
  exact ⟨v, rfl, res_ok hC hri hres q6 hfree hr hk⟩

theorem run_enter {P : Program} {f : FuncId} (he : ∃ fn c, P.funcs[f]? = some fn ∧ (fn.name == "runtime.NumGoroutine") = false ∧ fn.body = some c) (args : Array Value) : (callFunc f args).run P w = .ok (.enter f args) w := by
  obtain ⟨fn, c, h1, h2, h3⟩ := he
  have h4 : fn.name ≠ "runtime.NumGoroutine" := by simpa using h2
  simp [callFunc, h1, h4, h3]

theorem call_end (hC : F.C = C) (h : RI F I own σ a w) {dst : Option Tmp} {f : FuncId} {op : List Nat} {c : Call} {o : Oper} (ho : o.op = .call c) (hd : o.dst = dst) {x : Operand} (hc : c.callee = .value x) (hx : a.eval x = .func (.func f) #[] #[])
    (hw : (callEnd f dst (argsGo C op 0 c.args.toList c.argTypes.toList (some ([], σ)))).wp C K) : Oper.wp C.P o a w (Post F K) Q := by
  cases ha : argsGo C op 0 c.args.toList c.argTypes.toList (some ([], σ)) with
  | none => rw [ha] at hw; exact hw.elim
  | some q =>
    obtain ⟨as, τ⟩ := q
    rw [ha] at hw
    obtain ⟨J, gs, _, hA⟩ := args_ok c.args.toList c.argTypes.toList 0 [] σ I [] [] ⟨h, rfl, List.nodup_nil, fun g hg => by cases hg⟩ as τ ha
    obtain ⟨bs, res, hd', hct, τ', hr, hk⟩ := hw
    have hargs : ([] ++ c.args.toList.map a.eval).toArray = c.args.map a.eval := by
      rw [List.nil_append, ← Array.toList_map]
    rcases hct with hct | hext
    case inr =>
      obtain ⟨v, hv, hrep⟩ := hext J w _ gs hA.ri.imm (vreps_dull as bs _ gs hd' hA.reps)
      rw [hargs] at hv
      have hrun : (execOp a.eval o).run C.P w = .ok (.value v) w := by
        unfold execOp
        simp [ho, resolve, hc, hx, Deferred.ofValue, invoke, hv]
      refine by_value hrun ?_
      rw [hd]
      have hres : RRep F.mine J w res v [] := by
        by_cases ht : ∃ rs, res = .tup rs
        · obtain ⟨rs, rfl⟩ := ht
          obtain ⟨us, e1, e2⟩ := hrep
          exact ⟨us, e1, VReps.keep (fun _ h => h.elim) (Imm.leRefl J) _ _ _ e2 fun _ _ _ => rfl⟩
        · have e1 : VRep (fun _ => False) J w res v [] := by
            cases res <;> first | exact hrep | exact (ht ⟨_, rfl⟩).elim
          have e2 := e1.keep (M := fun _ => False) (N := F.mine) (fun _ h => h.elim) (Imm.leRefl J) fun _ _ _ => rfl
          cases res <;> first | exact e2 | exact (ht ⟨_, rfl⟩).elim
      exact res_ok hC hA.ri hres List.nodup_nil (fun g hg => by cases hg) hr hk
    have hcall := call_ok (K := K) hC hA hd' hct hr hk
    have hrun : (execOp a.eval o).run C.P w = .ok (.enter f (c.args.map a.eval)) w := by
      have he := run_enter (w := w) hct.enters (c.args.map a.eval)
      unfold execOp
      simp [ho, resolve, hc, hx, Deferred.ofValue, invoke, he]
    unfold Oper.wp
    rw [hrun, Oper.upon_enter]
    rw [hargs] at hcall
    refine hcall.mono fun e w'' hh => ?_
    obtain ⟨v, rfl, hk⟩ := hh
    subst hd
    exact hk

theorem op_call (hC : F.C = C) (hok : CfgOk C) (h : RI F I own σ a w) {dst : Option Tmp} {c : Call} {ty : TypeId} {pos : String} {after : Array Edge} {g : Option (Nat × Bool)}
    (hw : (opR C σ dst ty (.call c)).wp C K) : Oper.wp C.P ⟨dst, .call c, ty, pos, after, g⟩ a w (Post F K) Q := by
  cases hcl : c.callee with
  | builtin b =>
    have hw' := hw
    simp only [opR, hcl] at hw'
    cases b <;> simp only [callR] at hw' <;> try exact hw'.elim
    · exact op_append hC hok h hcl hw
    · exact quiet_wp h (op_len hC hok h hcl hw)
    · exact quiet_wp h (op_max hC h hcl hw)
  | invoke r n =>
    simp only [opR, hcl, callR] at hw
    exact hw.elim
  | value x =>
    simp only [opR, hcl] at hw
    cases x <;> simp only [callR] at hw <;> try exact hw.elim
    · rename_i t
      unfold callFn at hw
      cases hl : look σ.tmps t with
      | none => rw [hl] at hw; exact hw.elim
      | some y =>
        rw [hl] at hw
        cases y <;> simp only [fnOf] at hw <;> try exact hw.elim
        rename_i f
        have hx := rd_ok h C 0 (.tmp t)
        simp only [ASt.rd, hl, AV.seen] at hx
        have : a.eval (.tmp t) = .func (.func f) #[] #[] := by
          have ha := (rv_imm (show (AV.fn f).isImm = true from rfl)).1 hx
          generalize a.eval (.tmp t) = v at ha
          cases ha; rfl
        exact call_end hC h rfl rfl hcl this hw
    · rename_i f
      exact call_end hC h rfl rfl hcl rfl hw

end
end Go.Proofs.Ytjfnmlheehbojaa.VA
