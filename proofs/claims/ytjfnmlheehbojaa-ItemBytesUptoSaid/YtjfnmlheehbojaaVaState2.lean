/- How a state of the abstract machine is kept when the world turns. -/
import Derived.Test.YtjfnmlheehbojaaVaState
namespace Go.Proofs.Ytjfnmlheehbojaa.VA

/-- A run of cells of one block is written. -/
structure Wr (w w' : World) (b off : Nat) (vals : List Value) : Prop where
  os : w'.os = w.os
  tape : w'.tape = w.tape
  output : w'.output = w.output
  size : w'.heap.size = w.heap.size
  block : ∀ k, k ≠ b → w'.heap[k]? = w.heap[k]?
  cin : ∀ j, j < vals.length → w'.cell? ⟨b, off + j, none⟩ = vals[j]?
  cout : ∀ o, (o < off ∨ off + vals.length ≤ o) → w'.cell? ⟨b, o, none⟩ = w.cell? ⟨b, o, none⟩
  frz : ∀ x, w'.frozen? x = w.frozen? x

theorem tape_setCells (b : Nat) : ∀ (vs : List Value) (o : Nat) (w : World), (w.setCells b o vs).tape = w.tape ∧ (w.setCells b o vs).os = w.os ∧ (w.setCells b o vs).output = w.output ∧ (w.setCells b o vs).heap.size = w.heap.size ∧ ∀ k, k ≠ b → (w.setCells b o vs).heap[k]? = w.heap[k]?
  | [], _, _ => ⟨rfl, rfl, rfl, rfl, fun _ _ => rfl⟩
  | v :: r, o, w => by
    obtain ⟨h1, h2, h3, h4, h5⟩ := tape_setCells b r (o + 1) (w.setCell ⟨b, o, none⟩ v)
    refine ⟨h1, h2, h3, by simpa [World.setCells] using h4, fun k hk => ?_⟩
    simp only [World.setCells]
    rw [h5 k hk]
    exact RowKit.Below.heap_setCell w ⟨b, o, none⟩ v k hk

theorem wr_setCells (w : World) (b off : Nat) (vals : List Value) (hc : ∀ j, j < vals.length → (w.cell? ⟨b, off + j, none⟩).isSome = true) : Wr w (w.setCells b off vals) b off vals := by
  obtain ⟨h1, h2, h3, h4, h5⟩ := tape_setCells b vals off w
  refine ⟨h2, h1, h3, h4, h5, fun j hj => ?_, fun o ho => ?_, fun x => World.frozen?_setCells b vals off w x⟩
  · rw [World.cell?_setCells_in b vals off w hc j hj, List.getElem?_eq_getElem hj]
  · exact World.cell?_setCells_out b vals off w ⟨b, o, none⟩ fun _ _ => ho

theorem Wr.cell_ne {w w' : World} {b off : Nat} {vals : List Value} (h : Wr w w' b off vals) {k : Nat} (hk : k ≠ b) (o : Nat) : w'.cell? ⟨k, o, none⟩ = w.cell? ⟨k, o, none⟩ :=
  World.cell?_of_block (h.block k hk)

theorem putAt_get (cs new : List AV) (off j : Nat) (h : off + new.length ≤ cs.length) : (putAt cs off new)[j]? = if off ≤ j ∧ j < off + new.length then new[j - off]? else cs[j]? := by
  unfold putAt
  have hl : (cs.take off).length = off := by simp; omega
  by_cases h1 : j < off
  · rw [if_neg (by omega), List.append_assoc, List.getElem?_append_left (by omega), List.getElem?_take_of_lt h1]
  · by_cases h2 : j < off + new.length
    · rw [if_pos ⟨by omega, h2⟩, List.append_assoc, List.getElem?_append_right (by omega), hl, List.getElem?_append_left (by omega)]
    · rw [if_neg (by omega), List.getElem?_append_right (by simp [hl]; omega), List.getElem?_drop]
      congr 1
      simp [hl]; omega
theorem putAt_length (cs new : List AV) (off : Nat) (h : off + new.length ≤ cs.length) : (putAt cs off new).length = cs.length := by
  unfold putAt; simp; omega

section
variable {F : Fx} {I : Imm} {own : Nat → Option Loc} {σ : ASt} {a : Act} {w w' : World}

theorem fr_trans {w0 w w' : World} {p : Nat → Prop} (h : Fr w0 w p) (hos : w'.os = w.os) (ht : w'.tape = w.tape) (ho : w'.output = w.output) (hs : w.heap.size ≤ w'.heap.size)
    (hb : ∀ k, k < w0.heap.size → ¬ p k → w'.heap[k]? = w.heap[k]?) : Fr w0 w' p :=
  ⟨hos.trans h.os, ht.trans h.tape, ho.trans h.output, Nat.le_trans h.size hs, fun k hk hp => (hb k hk hp).trans (h.block k hk hp)⟩

/-- New blocks, draws: all that was there is as it was. -/
theorem RI.grow (h : RI F I own σ a w) (hw : Fr w w' fun _ => False) : RI F I own σ a w' := by
  have hc : ∀ b o, b < w.heap.size → w'.cell? ⟨b, o, none⟩ = w.cell? ⟨b, o, none⟩ := fun b o hb => World.cell?_of_block (hw.block b hb id)
  have hf : ∀ b o, b < w.heap.size → w'.frozen? ⟨b, o, none⟩ = w.frozen? ⟨b, o, none⟩ := fun b o hb => World.frozen?_of_block (hw.block b hb id)
  have hlt : ∀ {b o v}, w.cell? ⟨b, o, none⟩ = some v → b < w.heap.size := fun h => World.block_lt_of_cell? w _ h
  have hconc : ∀ l v, conc a w l = some v → conc a w' l = some v := by
    intro l v hl
    cases l with
    | cell k j =>
      simp only [conc, cellOf] at hl ⊢
      split at hl
      · rename_i p hp
        rw [hc p.block j (hlt hl)]; exact hl
      · cases hl
    | _ => exact hl
  exact {
    imm := fun b o v hI => by rw [hc b o (hlt (h.imm b o v hI))]; exact h.imm b o v hI
    base := h.base
    inew := h.inew
    fr := fr_trans h.fr hw.os hw.tape hw.output hw.size fun k hk _ => hw.block k (Nat.lt_of_lt_of_le hk h.fr.size) id
    mine := fun b l hb => ⟨(h.mine b l hb).1, Nat.lt_of_lt_of_le (h.mine b l hb).2 hw.size⟩
    defs := h.defs
    size := h.size
    slots := by
      intro l x hx
      obtain ⟨v, hv, hr⟩ := h.slots l x hx
      refine ⟨v, hconc l v hv, hr.keep (Imm.leRefl I) (fun g sh sz es cap _ hg hrow => ⟨hg, ?_⟩) (fun l' _ sh sz es he => ⟨⟨sh, es, he⟩, ?_⟩) (fun k off _ cs hk => ⟨⟨cs, hk⟩, rfl⟩)⟩
      · have hg' := (h.mine g l hg).2
        exact hrow.keep (fun _ h => h) (Imm.leRefl I) (fun _ h => h) (fun o => hc g o hg') (fun o => hf g o hg')
      · obtain ⟨v', hv', _⟩ := h.slots l' _ he
        rw [hv', hconc l' v' hv']
    boxes := by
      intro k cs hk
      obtain ⟨b, h1, h2, h3, h4⟩ := h.boxes k cs hk
      refine ⟨b, h1, h2, h3, fun j hj => ?_⟩
      have hb := (h.mine b _ h2).2
      rw [hc b j hb, hf b j hb]
      exact h4 j hj
    quiet := h.quiet
    lk := h.lk.keep (fun _ _ _ h => h) (fun b k _ hb => hw.block b (h.mine b _ hb).2 id) fun k cs hk => ⟨⟨cs, hk⟩, rfl⟩ }

theorem fr_alloc (w : World) (o : Obj) : Fr w (w.alloc o) fun _ => False :=
  ⟨rfl, rfl, rfl, by simp, fun k hk _ => RowKit.Below.heap_alloc w o k hk⟩
theorem fr_drew (w : World) : Fr w w.drew fun _ => False := ⟨rfl, rfl, rfl, Nat.le_refl _, fun _ _ _ => rfl⟩

theorem not_mine_ge (F : Fx) {b : Nat} (h : ¬ F.mine b) : b < F.w0.heap.size ∧ ¬ F.S b := ⟨by
  rcases Nat.lt_or_ge b F.w0.heap.size with h1 | h1
  · exact h1
  · exact (h (.inl h1)).elim, fun e => h (.inr e)⟩

/-- Cells of a variable are written. -/
theorem RI.writeVar (h : RI F I own σ a w) {own' : Nat → Option Loc} {k : Nat} {cs : List AV} (hk : look σ.vars k = some cs) {b : Nat} (hb : a.tmps[k]? = some (.pointer (some ⟨b, 0, none⟩))) {off : Nat} {new : List AV} {vals : List Value}
    (hlen : vals.length = new.length) (hoff : off + new.length ≤ cs.length) (hW : Wr w w' b off vals) (h1 : ∀ v, v ∈ vals → v.oneCell' = true)
    (hown : ∀ g l, own g = some l → ((∃ sh sz es, σ.at l = some (.own sh sz es)) ∨ ∃ k cs, l = .box k ∧ look σ.vars k = some cs) → own' g = some l)
    (hmine : ∀ b l, own' b = some l → F.mine b ∧ b < w.heap.size)
    (hnew : ∀ (j : Nat) x v, new[j]? = some x → vals[j]? = some v → SRep F I own' { σ with vars := ins k (putAt cs off new) σ.vars } a w' (.cell k (off + j)) x v)
    (hnl : ∀ (j : Nat) sh sz es, new[j]? = some (.own sh sz es) → ∀ l y, σ.at l = some y → y.leans (.cell k (off + j)) = false)
    (hq : ∀ x, x ∈ new → (∀ l, x.leans l = false) ∧ ∀ k, x.leansVar k = false) (hbox : ∀ b k, own b = some (.box k) → own' b = some (.box k)) (hlk : F.lv k = false) :
    RI F I own' { σ with vars := ins k (putAt cs off new) σ.vars } a w' := by
  obtain ⟨b', hb1, hb2, hb3, hb4⟩ := h.boxes k cs hk
  rw [hb] at hb1
  obtain rfl : b = b' := by cases hb1; rfl
  have hbm := h.mine b _ hb2
  have hpl := putAt_length cs new off hoff
  have hgne : ∀ g l, own g = some l → (∀ k, l ≠ .box k) → g ≠ b := by
    intro g l hg hl e
    subst e
    rw [hb2] at hg
    cases hg
    exact hl k rfl
  have hboxne : ∀ k' cs', look σ.vars k' = some cs' → k' ≠ k → ∀ b', a.tmps[k']? = some (.pointer (some ⟨b', 0, none⟩)) → b' ≠ b := by
    intro k' cs' hk' hne b' hb' e
    subst e
    obtain ⟨b2, e1, e2, _, _⟩ := h.boxes k' cs' hk'
    rw [hb'] at e1
    cases e1
    rw [hb2] at e2
    cases e2
    exact hne rfl
  -- what stands where nothing was written
  have hat : ∀ l y, ASt.at { σ with vars := ins k (putAt cs off new) σ.vars } l = some y → (σ.at l = some y ∧ conc a w' l = conc a w l) ∨ ∃ j, j < new.length ∧ l = .cell k (off + j) ∧ new[j]? = some y := by
    intro l y hy
    cases l with
    | tmp t => exact .inl ⟨hy, rfl⟩
    | comp t j => exact .inl ⟨hy, rfl⟩
    | box k => cases hy
    | cell k' j' =>
      simp only [ASt.at, look_ins] at hy
      by_cases e : k' = k
      · subst e
        simp only [if_true, cellAt, putAt_get cs new off j' hoff] at hy
        by_cases e2 : off ≤ j' ∧ j' < off + new.length
        · rw [if_pos e2] at hy
          exact .inr ⟨j' - off, by omega, by congr 1; omega, hy⟩
        · rw [if_neg e2] at hy
          refine .inl ⟨by simp only [ASt.at, hk, cellAt]; exact hy, ?_⟩
          simp only [conc, hb, cellOf]
          exact hW.cout j' (by omega)
      · simp only [e, if_false] at hy
        refine .inl ⟨hy, ?_⟩
        cases hk' : look σ.vars k' with
        | none => rw [hk'] at hy; cases hy
        | some cs' =>
          obtain ⟨b2, e1, _, _, _⟩ := h.boxes k' cs' hk'
          simp only [conc, e1, cellOf]
          exact hW.cell_ne (hboxne k' cs' hk' e b2 e1) j'
  exact {
    imm := by
      intro b0 o v hI
      by_cases e : b0 = b
      · subst e; rw [hb3 o] at hI; cases hI
      · rw [hW.cell_ne e o]; exact h.imm b0 o v hI
    base := h.base
    inew := h.inew
    fr := fr_trans h.fr hW.os hW.tape hW.output (Nat.le_of_eq hW.size.symm) fun k hk hp => hW.block k fun e => by
      subst e
      rcases hbm.1 with e | e
      · omega
      · exact hp e
    mine := fun b0 l hb0 => by rw [hW.size]; exact hmine b0 l hb0
    defs := h.defs
    size := h.size
    slots := by
      intro l y hy
      rcases hat l y hy with ⟨hy', hc⟩ | ⟨j, hj, rfl, hn⟩
      · obtain ⟨v, hv, hr⟩ := h.slots l y hy'
        refine ⟨v, by rw [hc]; exact hv, hr.keep (Imm.leRefl I) (fun g sh sz es cap e hg hrow => ?_) (fun l' hl' sh sz es he => ?_) (fun k' off' _ cs' hk' => ?_)⟩
        · have hlb : ∀ k, l ≠ .box k := fun k e => by subst e; cases hy'
          have hne := hgne g l hg hlb
          subst e
          exact ⟨hown g l hg (.inl ⟨_, _, _, hy'⟩), hrow.keep (fun _ h => h) (Imm.leRefl I) (fun _ h => h) (fun o => hW.cell_ne hne o) (fun o => hW.frz _)⟩
        · rcases hat l' _ he with ⟨he', hc'⟩ | ⟨j, hj, rfl, hn⟩
          · exact ⟨⟨sh, es, he'⟩, hc'⟩
          · rw [hnl j _ _ _ hn l y hy'] at hl'; cases hl'
        · refine ⟨?_, rfl⟩
          rw [look_ins] at hk'
          by_cases e : k' = k
          · subst e; exact ⟨cs, hk⟩
          · simp only [e, if_false] at hk'; exact ⟨cs', hk'⟩
      · have hv : vals[j]? = some vals[j] := List.getElem?_eq_getElem (by omega)
        refine ⟨vals[j], ?_, hnew j y _ hn hv⟩
        simp only [conc, hb, cellOf]
        rw [hW.cin j (by omega), hv]
    boxes := by
      intro k' cs' hk'
      rw [look_ins] at hk'
      by_cases e : k' = k
      · subst e
        simp only [if_true, Option.some.injEq] at hk'
        subst hk'
        refine ⟨b, hb, hown b _ hb2 (.inr ⟨k', cs, rfl, hk⟩), hb3, fun j hj => ?_⟩
        rw [hpl] at hj
        obtain ⟨v, e1, e2, e3⟩ := hb4 j hj
        by_cases e4 : off ≤ j ∧ j < off + vals.length
        · have hv : vals[j - off]? = some (vals[j - off]'(by omega)) := List.getElem?_eq_getElem (by omega)
          refine ⟨vals[j - off]'(by omega), ?_, h1 _ (List.getElem_mem _), by rw [hW.frz]; exact e3⟩
          have := hW.cin (j - off) (by omega)
          rw [show off + (j - off) = j by omega] at this
          rw [this, hv]
        · exact ⟨v, by rw [hW.cout j (by omega)]; exact e1, e2, by rw [hW.frz]; exact e3⟩
      · simp only [e, if_false] at hk'
        obtain ⟨b2, e1, e2, e3, e4⟩ := h.boxes k' cs' hk'
        have hne := hboxne k' cs' hk' e b2 e1
        refine ⟨b2, e1, hown b2 _ e2 (.inr ⟨k', cs', rfl, hk'⟩), e3, fun j hj => ?_⟩
        rw [hW.cell_ne hne j, hW.frz]
        exact e4 j hj
    quiet := by
      intro l y hy hl
      rcases hat l y hy with ⟨hy', _⟩ | ⟨j, hj, rfl, hn⟩
      · exact h.quiet l y hy' hl
      · exact hq y (List.mem_of_getElem? hn)
    lk := ⟨fun b2 hb2 => by
      obtain ⟨s1, k2, s2, s3⟩ := h.lk.stay b2 hb2
      have hne : b2 ≠ b := fun e => by
        subst e
        obtain ⟨b3, e1, e2, _⟩ := h.boxes k cs hk
        rw [hb] at e1
        obtain rfl : b2 = b3 := by cases e1; rfl
        rw [e2] at s2
        obtain rfl : k = k2 := by cases s2; rfl
        rw [hlk] at s3; cases s3
      exact ⟨(hW.block b2 hne).trans s1, k2, hbox b2 k2 s2, s3⟩, fun k2 hl2 cs2 b2 hk2 hb2 => by
      rw [look_ins] at hk2
      by_cases e : k2 = k
      · subst e; rw [hlk] at hl2; cases hl2
      · rw [if_neg e] at hk2
        exact h.lk.all k2 hl2 cs2 b2 hk2 hb2⟩ }

theorem imm_quiet {x : AV} (h : x.isImm = true) : (∀ l, x.leans l = false) ∧ ∀ k, x.leansVar k = false := by
  cases x <;> first | (simp [AV.isImm] at h; done) | exact ⟨fun _ => rfl, fun _ => rfl⟩

/-- Values that never change any more are laid into a variable. -/
theorem RI.setVar (h : RI F I own σ a w) {k : Nat} {cs : List AV} (hk : look σ.vars k = some cs) {b : Nat} (hb : a.tmps[k]? = some (.pointer (some ⟨b, 0, none⟩))) {off : Nat} {new : List AV} {vals : List Value}
    (hlen : vals.length = new.length) (hoff : off + new.length ≤ cs.length) (hW : Wr w w' b off vals) (h1 : ∀ v, v ∈ vals → v.oneCell' = true)
    (hnew : ∀ (j : Nat) x v, new[j]? = some x → vals[j]? = some v → AR F.mine I x v) (hlk : F.lv k = false) : RI F I own { σ with vars := ins k (putAt cs off new) σ.vars } a w' := by
  have him : ∀ x, x ∈ new → x.isImm = true := by
    intro x hx
    obtain ⟨j, hj⟩ := List.getElem?_of_mem hx
    have hjl := (List.getElem?_eq_some_iff.1 hj).1
    exact (hnew j x vals[j] hj (List.getElem?_eq_getElem (by omega))).imm
  refine h.writeVar hk hb hlen hoff hW h1 (fun _ _ hg _ => hg) h.mine (fun j x v hx hv => (srep_imm (him x (List.mem_of_getElem? hx))).2 (hnew j x v hx hv)) (fun j sh sz es he => ?_) (fun x hx => imm_quiet (him x hx)) (fun _ _ h => h) hlk
  have := him _ (List.mem_of_getElem? he)
  simp [AV.isImm] at this

theorem set_eq_putAt (cs : List AV) (off : Nat) (x : AV) (h : off < cs.length) : cs.set off x = putAt cs off [x] := by
  apply List.ext_getElem?
  intro j
  rw [putAt_get cs [x] off j (by simp; omega), List.getElem?_set]
  by_cases e : off = j
  · subst e; simp [h]
  · rw [if_neg e, if_neg (by simp; omega)]

/-- A row in hand is laid into a variable's cell. -/
theorem RI.setVarOwn (h0 : RI F I own σ a w) {k : Nat} {cs : List AV} (hk : look σ.vars k = some cs) {b : Nat} (hb : a.tmps[k]? = some (.pointer (some ⟨b, 0, none⟩))) {off : Nat}
    (hoff : off < cs.length) {sh : Bool} {sz : Nat} {es : List AV} {v : Value} (hW : Wr w w' b off [v]) (hh0 : Hand F I own σ w sh sz es v) (hlk : F.lv k = false) :
    RI F I (giveTo own v (.cell k off)) (ASt.setCell { σ with tmps := VA.strike (AV.leans (.cell k off)) σ.tmps } k off (.own sh sz es)) a w' := by
  have h := h0.strike (AV.leans (.cell k off))
  have hh : Hand F I own { σ with tmps := VA.strike (AV.leans (.cell k off)) σ.tmps } w sh sz es v := by
    rcases hh0 with h1 | ⟨g0, cap, rfl, hf, h1, h2, hr⟩
    · exact .inl h1
    · refine .inr ⟨g0, cap, rfl, fun l hl => ⟨fun sh sz es he => ?_, (hf l hl).2⟩, h1, h2, hr⟩
      obtain ⟨x0, e0, rfl | e1⟩ := at_strike _ σ l _ he
      · exact (hf l hl).1 _ _ _ e0
      · cases e1
  have hnl : ∀ l y, ASt.at { σ with tmps := VA.strike (AV.leans (.cell k off)) σ.tmps } l = some y → y.leans (.cell k off) = false := by
    intro l y hy
    by_cases e : ∃ j, l = .tmp j
    · obtain ⟨j, rfl⟩ := e; exact strike_leans hy
    · exact (h.quiet l y hy fun j e' => e ⟨j, e'⟩).1 _
  obtain ⟨b', hb1, hb2, hb3, hb4⟩ := h0.boxes k cs hk
  rw [hb] at hb1
  obtain rfl : b = b' := by cases hb1; rfl
  have hst : ASt.setCell { σ with tmps := VA.strike (AV.leans (.cell k off)) σ.tmps } k off (.own sh sz es) = { σ with tmps := VA.strike (AV.leans (.cell k off)) σ.tmps, vars := ins k (putAt cs off [.own sh sz es]) σ.vars } := by
    simp only [ASt.setCell, hk, ASt.setCellO, set_eq_putAt cs off _ hoff]
  rw [hst]
  have hv1 : v.oneCell' = true := by
    rcases hh with ⟨rfl, _⟩ | ⟨g0, cap, rfl, _⟩ <;> rfl
  refine h.writeVar (own' := giveTo own v (.cell k off)) (vals := [v]) hk hb rfl (by simp; omega) hW (fun v' hv' => by rw [List.mem_singleton.1 hv']; exact hv1) (fun g l hg hl => hand_keep hh _ l g hg hl)
    (fun b0 l hb0 => hand_mine h hh (.cell k off) b0 l hb0) (fun j x v' hx hv' => ?_) (fun j sh' sz' es' he => ?_) (fun x hx => ?_) (fun b k hb => hand_box hh _ b k hb) hlk
  · obtain ⟨rfl, rfl⟩ := lget_one hx
    obtain ⟨_, rfl⟩ := lget_one hv'
    rcases hh with hn | ⟨g0, cap, rfl, hf, h1, h2, hr⟩
    · exact .inl hn
    · refine .inr ⟨g0, cap, rfl, giveTo_same own g0 _ _ _, ?_⟩
      have hne : g0 ≠ b := by
        intro e; subst e
        exact (hf _ hb2).2 k rfl
      exact hr.keep (fun _ h => h) (Imm.leRefl I) (fun _ h => h) (fun o => hW.cell_ne hne o) (fun o => hW.frz _)
  · obtain ⟨rfl, _⟩ := lget_one he
    exact hnl
  · rw [List.mem_singleton.1 hx]
    exact ⟨fun _ => rfl, fun _ => rfl⟩

end
end Go.Proofs.Ytjfnmlheehbojaa.VA
