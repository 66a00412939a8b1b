/- Variables, rows and what is laid behind a row. -/
import Derived.Test.YtjfnmlheehbojaaVaState2
namespace Go.Proofs.Ytjfnmlheehbojaa.VA
section
variable {F : Fx} {I : Imm} {own : Nat → Option Loc} {σ : ASt} {a : Act} {w w' : World}

theorem RI.imm_lt (h : RI F I own σ a w) {b o : Nat} {v : Value} (hI : I b o = some v) : b < w.heap.size := World.block_lt_of_cell? w _ (h.imm b o v hI)
theorem RI.imm_new (h : RI F I own σ a w) {b : Nat} (hb : w.heap.size ≤ b) (o : Nat) : I b o = none := by
  cases hI : I b o with
  | none => rfl
  | some v => have := h.imm_lt hI; omega
theorem RI.own_new (h : RI F I own σ a w) {b : Nat} (hb : w.heap.size ≤ b) : own b = none := by
  cases hI : own b with
  | none => rfl
  | some v => have := (h.mine b v hI).2; omega

theorem strike_leansVar {d : Nat} {σ : ASt} {t : Nat} {y : AV} (h : look (VA.strike (AV.leansVar d) σ.tmps) t = some y) : y.leansVar d = false := by
  rw [look_strike] at h
  cases hl : look σ.tmps t with
  | none => rw [hl] at h; cases h
  | some x =>
    rw [hl] at h
    simp only [Option.map_some, Option.some.injEq] at h
    by_cases hx : x.leansVar d = true
    · rw [if_pos hx] at h; subst h; rfl
    · rw [if_neg hx] at h; subst h; simpa using hx
theorem leansVar_cell {y : AV} {d j : Nat} (h : y.leans (.cell d j) = true) : y.leansVar d = true := by
  cases y with
  | ref l => simp only [AV.leans, decide_eq_true_eq] at h; subst h; simp [AV.leansVar]
  | elt x i off =>
    cases x with
    | ref l => simp only [AV.leans, decide_eq_true_eq] at h; subst h; simp [AV.leansVar]
    | _ => simp [AV.leans] at h
  | _ => simp [AV.leans] at h

/-- A new variable. -/
theorem RI.newVar (h0 : RI F I own σ a w) {d : Nat} (hd : F.C.may d = true) {cs : List AV} {vs : Array Value} {T : TypeId} (hl : cs.length = vs.size) (h1 : ∀ (j : Nat) v, vs[j]? = some v → v.oneCell' = true)
    (hc : ∀ (j : Nat) x v, cs[j]? = some x → vs[j]? = some v → AR F.mine I x v ∨ (∃ sh sz, x = .own sh sz [] ∧ v = .slice none 0 0)) (hlk : F.lv d = false) :
    RI F I (fun b => if b = w.heap.size then some (.box d) else own b) (σ.newVar d cs) (a.put (some d) (.pointer (some ⟨w.heap.size, 0, none⟩))) (w.alloc (.cells vs T)) := by
  have h := (h0.grow (fr_alloc w (.cells vs T))).strike (AV.leansVar d)
  have hnb : own w.heap.size = none := h0.own_new (Nat.le_refl _)
  have hnl : ∀ l y, ASt.at { σ with tmps := VA.strike (AV.leansVar d) σ.tmps } l = some y → y.leansVar d = false := by
    intro l y hy
    by_cases e : ∃ j, l = .tmp j
    · obtain ⟨j, rfl⟩ := e; exact strike_leansVar hy
    · exact (h.quiet l y hy fun j e' => e ⟨j, e'⟩).2 _
  have hsz : d < a.tmps.size := by rw [h.size]; exact may_lt hd
  have hnew : ∀ j, (w.alloc (.cells vs T)).cell? ⟨w.heap.size, j, none⟩ = vs[j]? := fun j => World.cell?_alloc_new w vs T j
  have hat : ∀ l y, (σ.newVar d cs).at l = some y → (l = .tmp d ∧ y = .var d 0) ∨ (∃ j, l = .cell d j ∧ cs[j]? = some y) ∨
      (ASt.at { σ with tmps := VA.strike (AV.leansVar d) σ.tmps } l = some y ∧ l ≠ .tmp d ∧ (∀ j, l ≠ .comp d j) ∧ (∀ j, l ≠ .cell d j)) := by
    intro l y hy
    cases l with
    | tmp t =>
      simp only [ASt.newVar, ASt.at, look_ins] at hy
      by_cases e : t = d
      · subst e; simp only [if_true, Option.some.injEq] at hy; exact .inl ⟨rfl, hy.symm⟩
      · simp only [e, if_false] at hy
        exact .inr (.inr ⟨hy, (fun e' => e (by cases e'; rfl)), (fun j e' => by cases e'), (fun j e' => by cases e')⟩)
    | cell k j =>
      simp only [ASt.newVar, ASt.at, look_ins] at hy
      by_cases e : k = d
      · subst e; simp only [if_true, cellAt] at hy; exact .inr (.inl ⟨j, rfl, hy⟩)
      · simp only [e, if_false] at hy
        exact .inr (.inr ⟨hy, (fun e' => by cases e'), (fun j e' => by cases e'), (fun j e' => e (by cases e'; rfl))⟩)
    | comp t j =>
      simp only [ASt.newVar, ASt.at, look_ins] at hy
      by_cases e : t = d
      · subst e; simp only [if_true, AV.compAt] at hy; cases hy
      · simp only [e, if_false] at hy
        exact .inr (.inr ⟨hy, (fun e' => by cases e'), (fun j e' => e (by cases e'; rfl)), (fun j e' => by cases e')⟩)
    | box k => cases hy
  exact {
    imm := h.imm
    base := h.base
    inew := h.inew
    fr := h.fr
    mine := by
      intro b l hb
      have hb : (if b = w.heap.size then some (Loc.box d) else own b) = some l := hb
      by_cases e : b = w.heap.size
      · subst e
        refine ⟨.inl h0.fr.size, by simp⟩
      · rw [if_neg e] at hb
        exact h.mine b l hb
    defs := defs_put h.defs hd
    size := by simp [Act.put, h.size]
    slots := by
      intro l y hy
      rcases hat l y hy with ⟨rfl, rfl⟩ | ⟨j, rfl, hj⟩ | ⟨hy', n1, n2, n3⟩
      · refine ⟨_, tmp_put_same a d _ hsz, fun cs' _ => ⟨w.heap.size, tmp_put_same a d _ hsz, rfl⟩⟩
      · have hjl : j < vs.size := by rw [← hl]; exact (List.getElem?_eq_some_iff.1 hj).1
        refine ⟨vs[j], ?_, ?_⟩
        · simp only [conc, tmp_put_same a d _ hsz, cellOf, hnew j, Array.getElem?_eq_getElem hjl]
        · rcases hc j y _ hj (Array.getElem?_eq_getElem hjl) with hr | ⟨sh, sz, rfl, e⟩
          · exact (srep_imm hr.imm).2 hr
          · exact .inl ⟨e, rfl⟩
      · obtain ⟨v, hv, hr⟩ := h.slots l y hy'
        refine ⟨v, by rw [conc_put_ne a _ d _ l n1 n2 n3]; exact hv, hr.keep (Imm.leRefl I) (fun g sh sz es cap _ hg hrow => ⟨?_, hrow⟩) (fun l' hl' sh sz es he => ?_) (fun k off e cs' hk => ?_)⟩
        · have : g ≠ w.heap.size := fun e => by rw [e, hnb] at hg; cases hg
          simp only [this, if_false]; exact hg
        · rcases hat l' _ he with ⟨rfl, e⟩ | ⟨j, rfl, _⟩ | ⟨he', m1, m2, m3⟩
          · cases e
          · have := hnl l y hy'
            rw [leansVar_cell hl'] at this; cases this
          · exact ⟨⟨sh, es, he'⟩, conc_put_ne a _ d _ l' m1 m2 m3⟩
        · have hkd : k ≠ d := by
            intro e'
            subst e' e
            have := hnl l _ hy'
            simp [AV.leansVar] at this
          refine ⟨?_, tmp_put_ne a d k _ hkd⟩
          simp only [ASt.newVar, look_ins, hkd, if_false] at hk
          exact ⟨cs', hk⟩
    boxes := by
      intro k cs' hk
      simp only [ASt.newVar, look_ins] at hk
      by_cases e : k = d
      · subst e
        simp only [if_true, Option.some.injEq] at hk
        subst hk
        refine ⟨w.heap.size, tmp_put_same a k _ hsz, by simp, fun o => h0.imm_new (Nat.le_refl _) o, fun j hj => ?_⟩
        have hjl : j < vs.size := by rw [← hl]; exact hj
        refine ⟨vs[j], by rw [hnew j, Array.getElem?_eq_getElem hjl], h1 j _ (Array.getElem?_eq_getElem hjl), ?_⟩
        exact World.frozen?_alloc_new w vs T j
      · simp only [e, if_false] at hk
        obtain ⟨b, e1, e2, e3, e4⟩ := h.boxes k cs' hk
        refine ⟨b, by rw [tmp_put_ne a d k _ e]; exact e1, ?_, e3, e4⟩
        have : b ≠ w.heap.size := fun e => by rw [e, hnb] at e2; cases e2
        simp only [this, if_false]; exact e2
    quiet := by
      intro l y hy hlt
      rcases hat l y hy with ⟨rfl, rfl⟩ | ⟨j, rfl, hj⟩ | ⟨hy', _, _, _⟩
      · exact absurd rfl (hlt d)
      · have hjl : j < vs.size := by rw [← hl]; exact (List.getElem?_eq_some_iff.1 hj).1
        rcases hc j y _ hj (Array.getElem?_eq_getElem hjl) with hr | ⟨sh, sz, rfl, e⟩
        · exact imm_quiet hr.imm
        · exact ⟨fun _ => rfl, fun _ => rfl⟩
      · exact h.quiet l y hy' hlt
    lk := ⟨fun b hb => by
      obtain ⟨h1, k, h2, h3⟩ := h.lk.stay b hb
      refine ⟨h1, k, ?_, h3⟩
      have : b ≠ w.heap.size := fun e => by rw [e, hnb] at h2; cases h2
      simp only [this, if_false]; exact h2, fun k hl cs' b hk hb => by
      by_cases e : k = d
      · subst e; rw [hlk] at hl; cases hl
      · rw [tmp_put_ne a d k _ e] at hb
        have hk' : look σ.vars k = some cs' := by
          simp only [ASt.newVar, look_ins, e, if_false] at hk
          exact hk
        exact h0.lk.all k hl cs' b hk' hb⟩ }

/-- One block alone has turned. -/
structure Only (w w' : World) (g : Nat) : Prop where
  os : w'.os = w.os
  tape : w'.tape = w.tape
  output : w'.output = w.output
  size : w'.heap.size = w.heap.size
  block : ∀ k, k ≠ g → w'.heap[k]? = w.heap[k]?
theorem Wr.only {b off : Nat} {vals : List Value} (h : Wr w w' b off vals) : Only w w' b := ⟨h.os, h.tape, h.output, h.size, h.block⟩
theorem Only.refl (w : World) (g : Nat) : Only w w g := ⟨rfl, rfl, rfl, rfl, fun _ _ => rfl⟩
theorem Only.cell {g : Nat} (h : Only w w' g) {k : Nat} (hk : k ≠ g) (o : Nat) : w'.cell? ⟨k, o, none⟩ = w.cell? ⟨k, o, none⟩ := World.cell?_of_block (h.block k hk)
theorem Only.frz {g : Nat} (h : Only w w' g) {k : Nat} (hk : k ≠ g) (o : Nat) : w'.frozen? ⟨k, o, none⟩ = w.frozen? ⟨k, o, none⟩ := World.frozen?_of_block (h.block k hk)

theorem at_turn {σ : ASt} {l : Loc} (hp : l.plain = true) {sh sh' : Bool} {sz sz' : Nat} {es es' : List AV} (hl : σ.at l = some (.own sh sz es)) (l' : Loc) :
    (σ.turn l (.own sh' sz' es')).at l' = if l' = l then some (.own sh' sz' es') else σ.at l' := by
  cases l with
  | tmp t =>
    simp only [ASt.turn]
    by_cases e : l' = .tmp t
    · subst e; simp only [ASt.at, look_put, if_true]
    · rw [if_neg e]
      by_cases e2 : ∃ j, l' = .comp t j
      · obtain ⟨j, rfl⟩ := e2
        simp only [ASt.at] at hl
        simp only [ASt.at, look_put, if_true, AV.compAt, hl]
      · exact at_put_ne σ t _ l' e fun j e3 => e2 ⟨j, e3⟩
  | cell k j =>
    simp only [ASt.at] at hl
    cases hk : look σ.vars k with
    | none => rw [hk] at hl; cases hl
    | some cs =>
      rw [hk] at hl
      simp only [cellAt] at hl
      have hjl := (List.getElem?_eq_some_iff.1 hl).1
      simp only [ASt.turn, ASt.setCell, hk, ASt.setCellO]
      cases l' with
      | cell k' j' =>
        simp only [ASt.at, look_ins]
        by_cases e : k' = k
        · subst e
          simp only [if_true, cellAt, hk, List.getElem?_set]
          by_cases e2 : j = j'
          · subst e2; simp [hjl]
          · rw [if_neg e2, if_neg (fun e3 => e2 (by cases e3; rfl))]
        · simp only [e, if_false]
          rw [if_neg (fun e3 => e (by cases e3; rfl))]
      | tmp t => rw [if_neg (fun e => by cases e)]; rfl
      | comp t j => rw [if_neg (fun e => by cases e)]; rfl
      | box k => rw [if_neg (fun e => by cases e)]; rfl
  | comp t j => cases hp
  | box k => cases hp
theorem vars_turn {σ : ASt} (l : Loc) (x : AV) {k : Nat} {cs : List AV} (h : look (σ.turn l x).vars k = some cs) : ∃ cs0, look σ.vars k = some cs0 ∧ cs0.length = cs.length := by
  cases l with
  | cell k' j =>
    cases hk : look σ.vars k' with
    | none => simp only [ASt.turn, ASt.setCell, hk, ASt.setCellO] at h; exact ⟨cs, h, rfl⟩
    | some cs' =>
      simp only [ASt.turn, ASt.setCell, hk, ASt.setCellO, look_ins] at h
      by_cases e : k = k'
      · subst e
        simp only [if_true, Option.some.injEq] at h
        subst h
        exact ⟨cs', hk, by simp⟩
      · simp only [e, if_false] at h; exact ⟨cs, h, rfl⟩
  | _ => exact ⟨cs, h, rfl⟩

/-- The row at a place turns: its marks, or its elements. -/
theorem RI.turnRow (h : RI F I own σ a w) {l : Loc} (hp : l.plain = true) {sh sh' : Bool} {sz : Nat} {es es' : List AV} (hl : σ.at l = some (.own sh sz es)) {g cap : Nat}
    (hv : conc a w l = some (.slice (some ⟨g, 0, none⟩) es.length cap)) (hg : own g = some l) {J : Imm} (hI : Imm.le I J) (hJ : Imm.ok J w') (hJn : ∀ b o v, J b o = some v → I b o = some v ∨ b = g)
    (hO : Only w w' g) (hlen : es'.length = es.length) (hrow : Row F.mine J w' g sh' sz es' cap) : RI F J own (σ.turn l (.own sh' sz es')) a w' := by
  have hgm := h.mine g l hg
  have hbne : ∀ k cs, look σ.vars k = some cs → ∀ b, a.tmps[k]? = some (.pointer (some ⟨b, 0, none⟩)) → b ≠ g := by
    intro k cs hk b hb e
    subst e
    obtain ⟨b2, e1, e2, _, _⟩ := h.boxes k cs hk
    rw [hb] at e1
    cases e1
    rw [hg] at e2
    cases e2
    cases hl
  have hconc : ∀ l' y, σ.at l' = some y → conc a w' l' = conc a w l' := by
    intro l' y hy
    cases l' with
    | cell k j =>
      cases hk : look σ.vars k with
      | none => simp only [ASt.at, hk, cellAt] at hy; cases hy
      | some cs =>
        obtain ⟨b, e1, _, _, _⟩ := h.boxes k cs hk
        simp only [conc, e1, cellOf]
        exact hO.cell (hbne k cs hk b e1) j
    | _ => rfl
  have hat := at_turn (sh' := sh') (sz' := sz) (es' := es') hp hl
  have hJnone : ∀ b, b ≠ g → ∀ o, I b o = none → J b o = none := by
    intro b hb o hn
    cases hj : J b o with
    | none => rfl
    | some v =>
      rcases hJn b o v hj with e | e
      · rw [hn] at e; cases e
      · exact (hb e).elim
  exact {
    imm := hJ
    base := h.base.trans hI
    inew := by
      intro b o v hb
      rcases hJn b o v hb with e | rfl
      · exact h.inew b o v e
      · exact .inr hgm.1
    fr := fr_trans h.fr hO.os hO.tape hO.output (Nat.le_of_eq hO.size.symm) fun k hk hp => hO.block k fun e => by
      subst e
      rcases hgm.1 with e | e
      · omega
      · exact hp e
    mine := fun b l hb => by rw [hO.size]; exact h.mine b l hb
    defs := h.defs
    size := h.size
    slots := by
      intro l' y hy
      rw [hat l'] at hy
      by_cases e : l' = l
      · subst e
        simp only [if_true, Option.some.injEq] at hy
        subst hy
        refine ⟨_, by rw [hconc l' _ hl]; exact hv, .inr ⟨g, cap, by rw [hlen], hg, hrow⟩⟩
      · rw [if_neg e] at hy
        obtain ⟨v, hv', hr⟩ := h.slots l' y hy
        refine ⟨v, by rw [hconc l' y hy]; exact hv', hr.keep hI (fun g' sh1 sz1 es1 cap1 _ hg' hrow' => ⟨hg', ?_⟩) (fun l2 _ sh2 sz2 es2 he => ?_) (fun k off _ cs hk => ?_)⟩
        · have hne : g' ≠ g := fun e2 => by rw [e2, hg] at hg'; cases hg'; exact e rfl
          exact hrow'.keep (fun _ h => h) hI (hJnone g' hne) (fun o => hO.cell hne o) (fun o => hO.frz hne o)
        · rw [hat l2] at he
          by_cases e2 : l2 = l
          · subst e2
            simp only [if_true, Option.some.injEq, AV.own.injEq] at he
            obtain ⟨rfl, rfl, rfl⟩ := he
            exact ⟨⟨sh, es, hl⟩, hconc l2 _ hl⟩
          · rw [if_neg e2] at he
            exact ⟨⟨sh2, es2, he⟩, hconc l2 _ he⟩
        · obtain ⟨cs0, e1, _⟩ := vars_turn l _ hk
          exact ⟨⟨cs0, e1⟩, rfl⟩
    boxes := by
      intro k cs hk
      obtain ⟨cs0, e1, e2⟩ := vars_turn l _ hk
      obtain ⟨b, f1, f2, f3, f4⟩ := h.boxes k cs0 e1
      have hne := hbne k cs0 e1 b f1
      refine ⟨b, f1, f2, fun o => hJnone b hne o (f3 o), fun j hj => ?_⟩
      obtain ⟨v, v1, v2, v3⟩ := f4 j (by omega)
      exact ⟨v, by rw [hO.cell hne]; exact v1, v2, by rw [hO.frz hne]; exact v3⟩
    quiet := by
      intro l' y hy hlt
      rw [hat l'] at hy
      by_cases e : l' = l
      · subst e
        simp only [if_true, Option.some.injEq] at hy
        subst hy
        exact ⟨fun _ => rfl, fun _ => rfl⟩
      · rw [if_neg e] at hy
        exact h.quiet l' y hy hlt
    lk := h.lk.keep (fun _ _ _ h => h) (fun b k _ hb => hO.block b fun e => by
      subst e
      rw [hg] at hb
      cases hb
      cases hl) fun k cs hk => by
        obtain ⟨cs0, e1, _⟩ := vars_turn l _ hk
        exact ⟨⟨cs0, e1⟩, rfl⟩ }

/-- The row at a place is marked as one that never changes any more: it reads as such. -/
theorem RI.markMore (h : RI F I own σ a w) {l : Loc} (hp : l.plain = true) {sh : Bool} {sz : Nat} {es : List AV} (hl : σ.at l = some (.own sh sz es)) :
    ∃ J v, conc a w l = some v ∧ Imm.le I J ∧ RI F J own (σ.turn l (.own true sz es)) a w ∧ AR F.mine J (.sl true sz es) v ∧ ∀ b, own b ≠ some l → ∀ o, J b o = I b o := by
  obtain ⟨v, hv, hr⟩ := h.slots l _ hl
  rcases hr with ⟨rfl, rfl⟩ | ⟨g, cap, rfl, hg, hrow⟩
  · refine ⟨I, _, hv, Imm.leRefl I, ?_, .slnil true sz none 0, fun _ _ _ => rfl⟩
    have hat := at_turn (sh' := true) (sz' := sz) (es' := []) hp hl
    exact {
      imm := h.imm
      base := h.base
      inew := h.inew
      fr := h.fr
      mine := h.mine
      defs := h.defs
      size := h.size
      slots := by
        intro l' y hy
        rw [hat l'] at hy
        by_cases e : l' = l
        · subst e
          simp only [if_true, Option.some.injEq] at hy
          subst hy
          exact ⟨_, hv, .inl ⟨rfl, rfl⟩⟩
        · rw [if_neg e] at hy
          obtain ⟨v, hv', hr⟩ := h.slots l' y hy
          refine ⟨v, hv', hr.keep (Imm.leRefl I) (fun g' sh1 sz1 es1 cap1 _ hg' hrow' => ⟨hg', hrow'⟩) (fun l2 _ sh2 sz2 es2 he => ?_) (fun k off _ cs hk => ?_)⟩
          · rw [hat l2] at he
            by_cases e2 : l2 = l
            · subst e2
              simp only [if_true, Option.some.injEq, AV.own.injEq] at he
              obtain ⟨rfl, rfl, rfl⟩ := he
              exact ⟨⟨sh, [], hl⟩, rfl⟩
            · rw [if_neg e2] at he
              exact ⟨⟨sh2, es2, he⟩, rfl⟩
          · obtain ⟨cs0, e1, _⟩ := vars_turn l _ hk
            exact ⟨⟨cs0, e1⟩, rfl⟩
      boxes := by
        intro k cs hk
        obtain ⟨cs0, e1, e2⟩ := vars_turn l _ hk
        obtain ⟨b, f1, f2, f3, f4⟩ := h.boxes k cs0 e1
        exact ⟨b, f1, f2, f3, fun j hj => f4 j (by omega)⟩
      quiet := by
        intro l' y hy hlt
        rw [hat l'] at hy
        by_cases e : l' = l
        · subst e
          simp only [if_true, Option.some.injEq] at hy
          subst hy
          exact ⟨fun _ => rfl, fun _ => rfl⟩
        · rw [if_neg e] at hy
          exact h.quiet l' y hy hlt
      lk := h.lk.keep (fun _ _ _ h => h) (fun _ _ _ _ => rfl) fun k cs hk => by
        obtain ⟨cs0, e1, _⟩ := vars_turn l _ hk
        exact ⟨⟨cs0, e1⟩, rfl⟩ }
  · refine ⟨I.with w g (es.length * sz), _, hv, Imm.with_le h.imm, ?_, ?_, fun b hb o => Imm.with_ne (fun e => hb (by rw [e]; exact hg)) o⟩
    · refine h.turnRow hp hl hv hg (Imm.with_le h.imm) (Imm.with_ok h.imm) (fun b o v hb => ?_) (Only.refl w g) rfl (hrow.share h.imm)
      by_cases e : b = g
      · exact .inr e
      · rw [Imm.with_ne e] at hb; exact .inl hb
    · exact (hrow.share h.imm).toSl (h.mine g l hg).1
theorem RI.mark (h : RI F I own σ a w) {l : Loc} (hp : l.plain = true) {sh : Bool} {sz : Nat} {es : List AV} (hl : σ.at l = some (.own sh sz es)) :
    ∃ J v, conc a w l = some v ∧ Imm.le I J ∧ RI F J own (σ.turn l (.own true sz es)) a w ∧ AR F.mine J (.sl true sz es) v := by
  obtain ⟨J, v, h1, h2, h3, h4, _⟩ := h.markMore hp hl
  exact ⟨J, v, h1, h2, h3, h4⟩

/-- Nobody's row turns. -/
theorem RI.onlyFree (h : RI F I own σ a w) {g : Nat} (hO : Only w w' g) (hf : Free σ own g) (hm : F.mine g) (hI : Imm.ok I w') : RI F I own σ a w' := by
  have hbne : ∀ k cs, look σ.vars k = some cs → ∀ b, a.tmps[k]? = some (.pointer (some ⟨b, 0, none⟩)) → b ≠ g := by
    intro k cs hk b hb e
    subst e
    obtain ⟨b2, e1, e2, _, _⟩ := h.boxes k cs hk
    rw [hb] at e1
    cases e1
    exact (hf _ e2).2 k rfl
  have hconc : ∀ l' y, σ.at l' = some y → conc a w' l' = conc a w l' := by
    intro l' y hy
    cases l' with
    | cell k j =>
      cases hk : look σ.vars k with
      | none => simp only [ASt.at, hk, cellAt] at hy; cases hy
      | some cs =>
        obtain ⟨b, e1, _, _, _⟩ := h.boxes k cs hk
        simp only [conc, e1, cellOf]
        exact hO.cell (hbne k cs hk b e1) j
    | _ => rfl
  exact {
    imm := hI
    base := h.base
    inew := h.inew
    fr := fr_trans h.fr hO.os hO.tape hO.output (Nat.le_of_eq hO.size.symm) fun k hk hp => hO.block k fun e => by
      subst e
      rcases hm with e | e
      · omega
      · exact hp e
    mine := fun b l hb => by rw [hO.size]; exact h.mine b l hb
    defs := h.defs
    size := h.size
    slots := by
      intro l y hy
      obtain ⟨v, hv', hr⟩ := h.slots l y hy
      refine ⟨v, by rw [hconc l y hy]; exact hv', hr.keep (Imm.leRefl I) (fun g' sh1 sz1 es1 cap1 e hg' hrow' => ⟨hg', ?_⟩) (fun l2 _ sh2 sz2 es2 he => ⟨⟨sh2, es2, he⟩, hconc l2 _ he⟩) (fun k off _ cs hk => ⟨⟨cs, hk⟩, rfl⟩)⟩
      have hne : g' ≠ g := by
        intro e2
        subst e2 e
        exact (hf l hg').1 _ _ _ hy
      exact hrow'.keep (fun _ h => h) (Imm.leRefl I) (fun _ h => h) (fun o => hO.cell hne o) (fun o => hO.frz hne o)
    boxes := by
      intro k cs hk
      obtain ⟨b, f1, f2, f3, f4⟩ := h.boxes k cs hk
      have hne := hbne k cs hk b f1
      refine ⟨b, f1, f2, f3, fun j hj => ?_⟩
      rw [hO.cell hne, hO.frz hne]
      exact f4 j hj
    quiet := h.quiet
    lk := h.lk.keep (fun _ _ _ h => h) (fun b k _ hb => hO.block b fun e => by subst e; exact (hf _ hb).2 k rfl) fun k cs hk => ⟨⟨cs, hk⟩, rfl⟩ }

/-- More cells never change any more. -/
theorem RI.immFree (h : RI F I own σ a w) {g n : Nat} (hf : FreeW σ own g) (hm : F.mine g) : RI F (I.with w g n) own σ a w := by
  exact {
    imm := Imm.with_ok h.imm
    base := h.base.trans (Imm.with_le h.imm)
    inew := by
      intro b o v hb
      by_cases e : b = g
      · subst e; exact .inr hm
      · rw [Imm.with_ne e] at hb; exact h.inew b o v hb
    fr := h.fr
    mine := h.mine
    defs := h.defs
    size := h.size
    slots := by
      intro l y hy
      obtain ⟨v, hv', hr⟩ := h.slots l y hy
      refine ⟨v, hv', hr.keep (Imm.with_le h.imm) (fun g' sh1 sz1 es1 cap1 e hg' hrow' => ⟨hg', ?_⟩) (fun l2 _ sh2 sz2 es2 he => ⟨⟨sh2, es2, he⟩, rfl⟩) (fun k off _ cs hk => ⟨⟨cs, hk⟩, rfl⟩)⟩
      have hne : g' ≠ g := by
        intro e2
        subst e2 e
        exact (hf l hg').1 _ _ _ hy
      exact hrow'.keep (fun _ h => h) (Imm.with_le h.imm) (fun o ho => by rw [Imm.with_ne hne]; exact ho) (fun o => rfl) (fun o => rfl)
    boxes := by
      intro k cs hk
      obtain ⟨b, f1, f2, f3, f4⟩ := h.boxes k cs hk
      refine ⟨b, f1, f2, fun o => ?_, f4⟩
      have hne : b ≠ g := by
        intro e; subst e
        have := (hf _ f2).2 k rfl
        rw [hk] at this; cases this
      rw [Imm.with_ne hne]; exact f3 o
    quiet := h.quiet
    lk := h.lk }

end
end Go.Proofs.Ytjfnmlheehbojaa.VA
