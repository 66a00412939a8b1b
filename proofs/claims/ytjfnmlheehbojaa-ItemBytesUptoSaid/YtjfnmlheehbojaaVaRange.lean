/- Loops over functions: a state seen from another base. -/
import Derived.Test.YtjfnmlheehbojaaVaIn
namespace Go.Proofs.Ytjfnmlheehbojaa.VA
set_option linter.unusedVariables false
section
variable {F F2 : Fx} {I : Imm} {own own2 : Nat → Option Loc} {σ : ASt} {a a2 : Act} {w w2 : World} {C : Cfg} {K : ASt → Prop}

theorem SRep.any (F2 : Fx) {l : Loc} {x : AV} {v : Value} (h : SRep F I own σ a w l x v) : SRep F2 I own σ a w l x v := by
  have him : x.isImm = true → SRep F2 I own σ a w l x v := fun hx => (srep_imm hx).2 (((srep_imm hx).1 h).any _)
  cases x with
  | bot => trivial
  | undef => exact h
  | own sh sz es =>
    rcases h with h | ⟨g, cap, h1, h2, h3⟩
    · exact .inl h
    · exact .inr ⟨g, cap, h1, h2, h3.any _⟩
  | ref l' => exact h
  | var k off => exact h
  | elt y i off =>
    cases y with
    | ref l' => exact h
    | sl fr sz es =>
      obtain ⟨b, o, n, cap, h1, h2⟩ := h
      exact ⟨b, o, n, cap, h1.any _, h2⟩
    | _ => exact h.elim
  | tup vs => exact h
  | bool => exact him rfl
  | int => exact him rfl
  | str => exact him rfl
  | fn => exact him rfl
  | nilf => exact him rfl
  | agg => exact him rfl
  | sl => exact him rfl
  | ext => exact him rfl

/-- Another base; a world in which no cell is another one. -/
theorem RI.turn (h : RI F I own σ a w) (hn : F2.C.n = F.C.n) (hI0 : F2.I0 = I) (hw0 : F2.w0 = w2) (hopen : F2.open) (hS : ∀ b l, own b = some l → F2.S b)
    (ha : a2.tmps = a.tmps) (hd : a2.defers = F2.ds ∧ ∀ t, F2.C.fix.contains t = true → a2.tmps[t]? = F2.a0[t]?)
    (hc : ∀ p, w2.cell? p = w.cell? p) (hf : ∀ p, w2.frozen? p = w.frozen? p) (hsz : w.heap.size ≤ w2.heap.size) : RI F2 I own σ a2 w2 := by
  have hconc : ∀ l, conc a2 w2 l = conc a w l := by
    intro l
    cases l with
    | cell k j =>
      simp only [conc, ha]
      unfold cellOf
      split
      · exact hc _
      · rfl
    | _ => simp only [conc, ha]
  exact {
    imm := fun b o v hb => by rw [hc]; exact h.imm b o v hb
    base := by rw [hI0]; exact Imm.leRefl I
    inew := fun b o v hb => .inl (by rw [hI0]; exact hb)
    fr := by rw [hw0]; exact ⟨rfl, rfl, rfl, Nat.le_refl _, fun _ _ _ => rfl⟩
    mine := fun b l hb => ⟨.inr (hS b l hb), Nat.lt_of_lt_of_le (h.mine b l hb).2 hsz⟩
    defs := hd
    size := by rw [ha, h.size, hn]
    slots := fun l x hx => by
      obtain ⟨v, h1, h2⟩ := h.slots l x hx
      refine ⟨v, by rw [hconc]; exact h1, (h2.any F2).keep (Imm.leRefl I) (fun g sh sz es cap _ e1 e2 => ⟨e1, ?_⟩) (fun l' _ sh sz es he => ⟨⟨sh, es, he⟩, hconc l'⟩) (fun k off _ cs hk => ⟨⟨cs, hk⟩, by rw [ha]⟩)⟩
      exact e2.keep (fun _ h => h) (Imm.leRefl I) (fun _ h => h) (fun o => hc _) (fun o => hf _)
    boxes := fun k cs hk => by
      obtain ⟨b, e1, e2, e3, e4⟩ := h.boxes k cs hk
      refine ⟨b, by rw [ha]; exact e1, e2, e3, fun j hj => ?_⟩
      obtain ⟨v, q1, q2, q3⟩ := e4 j hj
      exact ⟨v, by rw [hc]; exact q1, q2, by rw [hf]; exact q3⟩
    quiet := h.quiet
    lk := ⟨fun b hb => (hopen.2 b hb).elim, fun k e => by rw [hopen.1] at e; cases e⟩ }
/-- Fewer blocks are owned. -/
theorem RI.less (h : RI F I own σ a w) (hop : F.open) (hsub : ∀ b l, own2 b = some l → own b = some l) (hkeep : ∀ l sh sz es g, σ.at l = some (.own sh sz es) → own g = some l → own2 g = some l)
    (hbox : ∀ k cs b, look σ.vars k = some cs → own b = some (.box k) → own2 b = some (.box k)) : RI F I own2 σ a w where
  imm := h.imm
  base := h.base
  inew := h.inew
  fr := h.fr
  mine b l hb := h.mine b l (hsub b l hb)
  defs := h.defs
  size := h.size
  slots l x hx := by
    obtain ⟨v, h1, h2⟩ := h.slots l x hx
    exact ⟨v, h1, h2.keep (Imm.leRefl I) (fun g sh sz es cap e e1 e2 => ⟨hkeep l sh sz es g (by rw [← e]; exact hx) e1, e2⟩) (fun l' _ sh sz es he => ⟨⟨sh, es, he⟩, rfl⟩) (fun k off _ cs hk => ⟨⟨cs, hk⟩, rfl⟩)⟩
  boxes k cs hk := by
    obtain ⟨b, e1, e2, e3⟩ := h.boxes k cs hk
    exact ⟨b, e1, hbox k cs b hk e2, e3⟩
  quiet := h.quiet
  lk := ⟨fun b hb => (hop.2 b hb).elim, fun k e => by rw [hop.1] at e; cases e⟩
/-- What is owned by the variables ks alone. -/
def keepB (ks : List Nat) (own : Nat → Option Loc) (b : Nat) : Option Loc :=
  match own b with
  | some (.box k) => if ks.contains k = true then some (.box k) else none
  | some (.cell k j) => if ks.contains k = true then some (.cell k j) else none
  | _ => none
theorem keepB_sub {ks : List Nat} {b : Nat} {l : Loc} (h : keepB ks own b = some l) : own b = some l ∧ ∀ t, l ≠ .tmp t := by
  unfold keepB at h
  cases e : own b with
  | none => rw [e] at h; cases h
  | some l0 =>
    rw [e] at h
    cases l0 <;> simp only at h <;> try cases h
    all_goals split at h
    all_goals first | (cases h; exact ⟨rfl, fun t e => by cases e⟩) | cases h
theorem RI.vars0 (h : RI F I own σ a w) (hop : F.open) (ks : List Nat) : RI F I (keepB ks own) ⟨[], keepV ks σ.vars⟩ a w := by
  have hat : ∀ l x, ASt.at ⟨[], keepV ks σ.vars⟩ l = some x → ∃ k j cs, l = .cell k j ∧ ks.contains k = true ∧ look σ.vars k = some cs ∧ cs[j]? = some x := by
    intro l x hx
    cases l with
    | tmp t => cases hx
    | comp t j => cases hx
    | box k => cases hx
    | cell k j =>
      simp only [ASt.at] at hx
      cases e : look (keepV ks σ.vars) k with
      | none => rw [e] at hx; cases hx
      | some cs =>
        rw [e] at hx
        obtain ⟨e1, e2⟩ := look_keepV ks _ k cs e
        exact ⟨k, j, cs, rfl, e2, e1, hx⟩
  have h1 : RI F I own ⟨[], keepV ks σ.vars⟩ a w := h.weaken (fun l x hx => by
    obtain ⟨k, j, cs, rfl, _, e1, e2⟩ := hat l x hx
    exact ⟨x, by simp only [ASt.at, e1]; exact e2, .inl rfl⟩) fun k cs hk => ⟨cs, (look_keepV ks _ k cs hk).1, rfl⟩
  refine h1.less hop (fun b l hb => (keepB_sub hb).1) (fun l sh sz es g hx hg => ?_) fun k cs b hk hb => ?_
  · obtain ⟨k, j, cs, rfl, e0, _⟩ := hat l _ hx
    simp only [keepB, hg, e0, if_true]
  · have e0 := (look_keepV ks _ k cs hk).2
    simp only [keepB, hb, e0, if_true]

/-- What is known of a temporary. -/
def TRep (F : Fx) (I : Imm) (own : Nat → Option Loc) (vs : List (Nat × List AV)) (a : Act) (w : World) (t : Nat) (x : AV) (v : Value) : Prop :=
  x = .bot ∨ (x.isImm = true ∧ AR F.mine I x v) ∨
  (∃ k off, x = .var k off ∧ ∀ cs, look vs k = some cs → ∃ b, a.tmps[k]? = some (.pointer (some ⟨b, 0, none⟩)) ∧ v = .pointer (some ⟨b, off, none⟩)) ∨
  ∃ sh sz es, x = .own sh sz es ∧ ((v = .slice none 0 0 ∧ es = []) ∨ ∃ g cap, v = .slice (some ⟨g, 0, none⟩) es.length cap ∧ own g = some (.tmp t) ∧ Row F.mine I w g sh sz es cap)
/-- Temporaries are laid beside variables. -/
theorem RI.make {vs : List (Nat × List AV)} (h : RI F I own ⟨[], vs⟩ a w) (hop : F.open) (tm : List (Nat × AV)) (hown : ∀ b l, own b = some l → own2 b = some l) (hmine : ∀ b l, own2 b = some l → F.mine b ∧ b < w.heap.size)
    (hsz : a2.tmps.size = F.C.n) (hd : a2.defers = F.ds ∧ ∀ t, F.C.fix.contains t = true → a2.tmps[t]? = F.a0[t]?) (hv : ∀ k cs, look vs k = some cs → a2.tmps[k]? = a.tmps[k]?)
    (ht : ∀ t x, look tm t = some x → ∃ v, a2.tmps[t]? = some v ∧ TRep F I own2 vs a2 w t x v) : RI F I own2 ⟨tm, vs⟩ a2 w := by
  have hcomp : ∀ t j, ASt.at ⟨tm, vs⟩ (.comp t j) = none := by
    intro t j
    simp only [ASt.at]
    cases e : look tm t with
    | none => rfl
    | some x =>
      obtain ⟨v, _, hx⟩ := ht t x e
      rcases hx with rfl | ⟨hi, _⟩ | ⟨k, off, rfl, _⟩ | ⟨sh, sz, es, rfl, _⟩
      · rfl
      · cases x <;> first | rfl | cases hi
      · rfl
      · rfl
  have hcell : ∀ k j, conc a2 w (.cell k j) = conc a w (.cell k j) ∨ look vs k = none := by
    intro k j
    cases e : look vs k with
    | none => exact .inr rfl
    | some cs => exact .inl (by simp only [conc, hv k cs e])
  exact {
    imm := h.imm
    base := h.base
    inew := h.inew
    fr := h.fr
    mine := hmine
    defs := hd
    size := hsz
    slots := by
      intro l x hx
      cases l with
      | box k => cases hx
      | comp t j => rw [hcomp] at hx; cases hx
      | tmp t =>
        obtain ⟨v, h1, h2⟩ := ht t x hx
        refine ⟨v, h1, ?_⟩
        rcases h2 with rfl | ⟨hi, ha⟩ | ⟨k, off, rfl, hk⟩ | ⟨sh, sz, es, rfl, hr⟩
        · trivial
        · exact (srep_imm hi).2 ha
        · exact hk
        · exact hr
      | cell k j =>
        have hx0 : ASt.at ⟨[], vs⟩ (.cell k j) = some x := hx
        obtain ⟨v, h1, h2⟩ := h.slots (.cell k j) x hx0
        have hq := h.quiet (.cell k j) x hx0 (fun t e => by cases e)
        have hlk : look vs k ≠ none := fun e => by simp only [ASt.at, e] at hx0; cases hx0
        refine ⟨v, by rw [(hcell k j).resolve_right hlk]; exact h1, h2.keep (Imm.leRefl I) (fun g sh sz es cap _ e1 e2 => ⟨hown g _ e1, e2⟩) (fun l' hl' => ?_) (fun k' off e => ?_)⟩
        · rw [hq.1 l'] at hl'; cases hl'
        · have := hq.2 k'
          rw [e] at this
          simp [AV.leansVar] at this
    boxes := fun k cs hk => by
      obtain ⟨b, e1, e2, e3⟩ := h.boxes k cs hk
      exact ⟨b, by rw [hv k cs hk]; exact e1, hown b _ e2, e3⟩
    quiet := by
      intro l x hx hl
      cases l with
      | box k => cases hx
      | comp t j => rw [hcomp] at hx; cases hx
      | tmp t => exact (hl t rfl).elim
      | cell k j => exact h.quiet (.cell k j) x hx (fun t e => by cases e)
    lk := ⟨fun b hb => (hop.2 b hb).elim, fun k e => by rw [hop.1] at e; cases e⟩ }

/-! A turn of a block that is no cells. -/
theorem cell?_put {l : Nat} {o o' : Obj} (h : w.heap[l]? = some o) (h1 : ∀ c e f, o ≠ .cells c e f) (h2 : ∀ c e f, o' ≠ .cells c e f) (p : Addr) : (w.putObj l o').cell? p = w.cell? p ∧ (w.putObj l o').frozen? p = w.frozen? p := by
  by_cases e : p.block = l
  · have e1 : (w.putObj l o').heap[p.block]? = some o' := by rw [e]; exact World.putObj_heap_same (Array.getElem?_eq_some_iff.1 h).1
    have e2 : w.heap[p.block]? = some o := by rw [e]; exact h
    unfold World.cell? World.frozen?
    rw [e1, e2]
    cases o <;> cases o' <;> first | exact ⟨rfl, rfl⟩ | exact (h1 _ _ _ rfl).elim | exact (h2 _ _ _ rfl).elim
  · exact ⟨World.cell?_of_block (World.putObj_heap_other e), World.frozen?_of_block (World.putObj_heap_other e)⟩
theorem cell?_newObj {o : Obj} (h2 : ∀ c e f, o ≠ .cells c e f) (p : Addr) : (w.alloc o).cell? p = w.cell? p ∧ (w.alloc o).frozen? p = w.frozen? p := by
  rcases Nat.lt_trichotomy p.block w.heap.size with e | e | e
  · have e1 : (w.alloc o).heap[p.block]? = w.heap[p.block]? := (fr_alloc w o).block _ e id
    exact ⟨World.cell?_of_block e1, World.frozen?_of_block e1⟩
  · have e1 : (w.alloc o).heap[p.block]? = some o := by rw [e]; exact World.alloc_heap_new w o
    have e2 : w.heap[p.block]? = none := Array.getElem?_eq_none (by omega)
    unfold World.cell? World.frozen?
    rw [e1, e2]
    cases o <;> first | exact ⟨rfl, rfl⟩ | exact (h2 _ _ _ rfl).elim
  · have e1 : (w.alloc o).heap[p.block]? = none := Array.getElem?_eq_none (by rw [World.size_alloc]; omega)
    have e2 : w.heap[p.block]? = none := Array.getElem?_eq_none (by omega)
    unfold World.cell? World.frozen?
    rw [e1, e2]
    exact ⟨rfl, rfl⟩
end
end Go.Proofs.Ytjfnmlheehbojaa.VA
