/- How a state of the abstract machine stands to a frame and a world. -/
import Derived.Test.YtjfnmlheehbojaaVaBase
namespace Go.Proofs.Ytjfnmlheehbojaa.VA

structure Fx where
  C : Cfg
  w0 : World
  I0 : Imm
  S : Nat → Prop
  lv : Nat → Bool
  lk : Nat → Prop
  ds : List Deferred
  a0 : Array Value
def Fx.mine (F : Fx) (b : Nat) : Prop := F.w0.heap.size ≤ b ∨ F.S b

def cellOf (w : World) (j : Nat) : Option Value → Option Value
  | some (.pointer (some p)) => w.cell? ⟨p.block, j, none⟩
  | _ => none
def compOf (j : Nat) : Option Value → Option Value
  | some (.tuple vs) => vs[j]?
  | _ => none
def conc (a : Act) (w : World) : Loc → Option Value
  | .tmp t => a.tmps[t]?
  | .cell k j => cellOf w j a.tmps[k]?
  | .comp t j => compOf j a.tmps[t]?
  | .box _ => none

/-- What stands at a place. -/
def SRep (F : Fx) (I : Imm) (own : Nat → Option Loc) (σ : ASt) (a : Act) (w : World) (l : Loc) : AV → Value → Prop
  | .bot, _ => True
  | .undef, v => v = undef
  | .own sh sz es, v => (v = .slice none 0 0 ∧ es = []) ∨ ∃ g cap, v = .slice (some ⟨g, 0, none⟩) es.length cap ∧ own g = some l ∧ Row F.mine I w g sh sz es cap
  | .ref l', v => ∀ sh sz es, σ.at l' = some (.own sh sz es) → conc a w l' = some v
  | .var k off, v => ∀ cs, look σ.vars k = some cs → ∃ b, a.tmps[k]? = some (.pointer (some ⟨b, 0, none⟩)) ∧ v = .pointer (some ⟨b, off, none⟩)
  | .elt (.ref l') i off, v => ∀ sh sz es, σ.at l' = some (.own sh sz es) → ∃ g n cap, conc a w l' = some (.slice (some ⟨g, 0, none⟩) n cap) ∧ v = .pointer (some ⟨g, i * sz + off, none⟩)
  | .elt (.sl fr sz es) i off, v => ∃ b o n cap, AR F.mine I (.sl fr sz es) (.slice (some ⟨b, o, none⟩) n cap) ∧ v = .pointer (some ⟨b, o + i * sz + off, none⟩)
  | .elt _ _ _, _ => False
  | .tup vs, v => ∃ arr, v = .tuple arr ∧ arr.size = vs.length
  | x, v => AR F.mine I x v

/-- What is locked stays as it was. -/
structure LkOk (F : Fx) (own : Nat → Option Loc) (σ : ASt) (a : Act) (w : World) : Prop where
  stay : ∀ b, F.lk b → w.heap[b]? = F.w0.heap[b]? ∧ ∃ k, own b = some (.box k) ∧ F.lv k = true
  all : ∀ k, F.lv k = true → ∀ cs b, look σ.vars k = some cs → a.tmps[k]? = some (.pointer (some ⟨b, 0, none⟩)) → F.lk b
theorem LkOk.keep {F : Fx} {own own' : Nat → Option Loc} {σ σ' : ASt} {a a' : Act} {w w' : World} (h : LkOk F own σ a w) (ho : ∀ b k, F.lk b → own b = some (.box k) → own' b = some (.box k))
    (hw : ∀ b k, F.lk b → own b = some (.box k) → w'.heap[b]? = w.heap[b]?) (hv : ∀ k cs, look σ'.vars k = some cs → (∃ cs0, look σ.vars k = some cs0) ∧ a'.tmps[k]? = a.tmps[k]?) : LkOk F own' σ' a' w' where
  stay b hb := by
    obtain ⟨h1, k, h2, h3⟩ := h.stay b hb
    exact ⟨by rw [hw b k hb h2]; exact h1, k, ho b k hb h2, h3⟩
  all k hl cs b hk hb := by
    obtain ⟨⟨cs0, e1⟩, e2⟩ := hv k cs hk
    rw [e2] at hb
    exact h.all k hl cs0 b e1 hb

structure RI (F : Fx) (I : Imm) (own : Nat → Option Loc) (σ : ASt) (a : Act) (w : World) : Prop where
  imm : Imm.ok I w
  base : Imm.le F.I0 I
  inew : ∀ b o v, I b o = some v → F.I0 b o = some v ∨ F.mine b
  fr : Fr F.w0 w F.S
  mine : ∀ b l, own b = some l → F.mine b ∧ b < w.heap.size
  defs : a.defers = F.ds ∧ ∀ t, F.C.fix.contains t = true → a.tmps[t]? = F.a0[t]?
  size : a.tmps.size = F.C.n
  slots : ∀ l x, σ.at l = some x → ∃ v, conc a w l = some v ∧ SRep F I own σ a w l x v
  boxes : ∀ k cs, look σ.vars k = some cs → ∃ b, a.tmps[k]? = some (.pointer (some ⟨b, 0, none⟩)) ∧ own b = some (.box k) ∧ (∀ o, I b o = none) ∧
    ∀ j, j < cs.length → ∃ v, w.cell? ⟨b, j, none⟩ = some v ∧ v.oneCell' = true ∧ w.frozen? ⟨b, j, none⟩ = false
  quiet : ∀ l x, σ.at l = some x → (∀ t, l ≠ .tmp t) → (∀ l', x.leans l' = false) ∧ ∀ k, x.leansVar k = false
  lk : LkOk F own σ a w

theorem srep_imm {F : Fx} {I : Imm} {own : Nat → Option Loc} {σ : ASt} {a : Act} {w : World} {l : Loc} {x : AV} {v : Value} (hx : x.isImm = true) : SRep F I own σ a w l x v ↔ AR F.mine I x v := by
  cases x <;> first | exact Iff.rfl | (simp [AV.isImm] at hx)

theorem SRep.keep {F : Fx} {I J : Imm} {own own' : Nat → Option Loc} {σ σ' : ASt} {a a' : Act} {w w' : World} {l : Loc} {x : AV} {v : Value} (h : SRep F I own σ a w l x v)
    (hI : Imm.le I J)
    (hrow : ∀ g sh sz es cap, x = .own sh sz es → own g = some l → Row F.mine I w g sh sz es cap → own' g = some l ∧ Row F.mine J w' g sh sz es cap)
    (href : ∀ l', x.leans l' = true → ∀ sh sz es, σ'.at l' = some (.own sh sz es) → (∃ sh' es', σ.at l' = some (.own sh' sz es')) ∧ conc a' w' l' = conc a w l')
    (hvar : ∀ k off, x = .var k off → ∀ cs, look σ'.vars k = some cs → (∃ cs0, look σ.vars k = some cs0) ∧ a'.tmps[k]? = a.tmps[k]?) :
    SRep F J own' σ' a' w' l x v := by
  have him : x.isImm = true → SRep F J own' σ' a' w' l x v := fun hx => (srep_imm hx).2 (((srep_imm hx).1 h).mono (fun _ h => h) hI)
  cases x with
  | bot => trivial
  | undef => exact h
  | own sh sz es =>
    rcases h with h | ⟨g, cap, h1, h2, h3⟩
    · exact .inl h
    · obtain ⟨h4, h5⟩ := hrow g sh sz es cap rfl h2 h3
      exact .inr ⟨g, cap, h1, h4, h5⟩
  | ref l' =>
    intro sh sz es he
    obtain ⟨⟨sh', es', h1⟩, h2⟩ := href l' (by simp [AV.leans]) sh sz es he
    rw [h2]
    exact h sh' sz es' h1
  | var k off =>
    intro cs hk
    obtain ⟨⟨cs0, h1⟩, h2⟩ := hvar k off rfl cs hk
    rw [h2]
    exact h cs0 h1
  | elt y i off =>
    cases y with
    | ref l' =>
      intro sh sz es he
      obtain ⟨⟨sh', es', h1⟩, h2⟩ := href l' (by simp [AV.leans]) sh sz es he
      rw [h2]
      exact h sh' sz es' h1
    | sl fr sz es =>
      obtain ⟨b, o, n, cap, h1, h2⟩ := h
      exact ⟨b, o, n, cap, h1.mono (fun _ h => h) hI, h2⟩
    | _ => exact h.elim
  | tup vs => exact h
  | bool => exact him rfl
  | int => exact him rfl
  | str => exact him rfl
  | fn => exact him rfl
  | nilf => exact him rfl
  | agg => exact him rfl
  | sl => exact him rfl
  | ext => exact him rfl

section
variable {F : Fx} {I : Imm} {own : Nat → Option Loc} {σ σ' : ASt} {a : Act} {w : World}

/-- To know less. -/
theorem RI.weaken (h : RI F I own σ a w) (hs : ∀ l x, σ'.at l = some x → ∃ x0, σ.at l = some x0 ∧ (x = x0 ∨ x = .bot))
    (hv : ∀ k cs, look σ'.vars k = some cs → ∃ cs0, look σ.vars k = some cs0 ∧ cs0.length = cs.length) : RI F I own σ' a w where
  imm := h.imm
  base := h.base
  inew := h.inew
  fr := h.fr
  mine := h.mine
  defs := h.defs
  size := h.size
  slots l x hx := by
    obtain ⟨x0, h0, rfl | rfl⟩ := hs l x hx
    · obtain ⟨v, hc, hr⟩ := h.slots l x h0
      refine ⟨v, hc, hr.keep (Imm.leRefl I) (fun g sh sz es cap _ h1 h2 => ⟨h1, h2⟩) (fun l' _ sh sz es he => ?_) (fun k off _ cs hk => ?_)⟩
      · obtain ⟨x1, h1, rfl | e⟩ := hs l' _ he
        · exact ⟨⟨sh, es, h1⟩, rfl⟩
        · cases e
      · obtain ⟨cs0, h1, _⟩ := hv k cs hk
        exact ⟨⟨cs0, h1⟩, rfl⟩
    · obtain ⟨v, hc, _⟩ := h.slots l x0 h0
      exact ⟨v, hc, trivial⟩
  boxes k cs hk := by
    obtain ⟨cs0, h0, hl⟩ := hv k cs hk
    obtain ⟨b, h1, h2, h3, h4⟩ := h.boxes k cs0 h0
    exact ⟨b, h1, h2, h3, fun j hj => h4 j (by omega)⟩
  quiet l x hx hl := by
    obtain ⟨x0, h0, rfl | rfl⟩ := hs l x hx
    · exact h.quiet l x h0 hl
    · exact ⟨fun _ => rfl, fun _ => rfl⟩
  lk := h.lk.keep (fun _ _ _ h => h) (fun _ _ _ _ => rfl) fun k cs hk => by
    obtain ⟨cs0, h0, _⟩ := hv k cs hk
    exact ⟨⟨cs0, h0⟩, rfl⟩

theorem at_strike (p : AV → Bool) (σ : ASt) (l : Loc) (x : AV) (h : ASt.at { σ with tmps := strike p σ.tmps } l = some x) : ∃ x0, σ.at l = some x0 ∧ (x = x0 ∨ x = .bot) := by
  cases l with
  | tmp t =>
    simp only [ASt.at, look_strike] at h ⊢
    cases hl : look σ.tmps t with
    | none => rw [hl] at h; cases h
    | some y =>
      rw [hl] at h
      simp only [Option.map_some, Option.some.injEq] at h
      refine ⟨y, rfl, ?_⟩
      by_cases hy : p y = true
      · rw [if_pos hy] at h; exact .inr h.symm
      · rw [if_neg hy] at h; exact .inl h.symm
  | cell k j => exact ⟨x, h, .inl rfl⟩
  | comp t j =>
    simp only [ASt.at, look_strike] at h ⊢
    cases hl : look σ.tmps t with
    | none => rw [hl] at h; simp [AV.compAt] at h
    | some y =>
      rw [hl] at h
      simp only [Option.map_some] at h
      by_cases hy : p y = true
      · rw [if_pos hy] at h; simp [AV.compAt] at h
      · rw [if_neg hy] at h; exact ⟨x, h, .inl rfl⟩
  | box k => cases h

theorem RI.strike (h : RI F I own σ a w) (p : AV → Bool) : RI F I own { σ with tmps := VA.strike p σ.tmps } a w :=
  h.weaken (at_strike p σ) fun _ cs hk => ⟨cs, hk, rfl⟩

theorem RI.keep (h : RI F I own σ a w) (ks : List Nat) : RI F I own (σ.keep ks) a w := by
  refine h.weaken (fun l x hx => ?_) fun k cs hk => ⟨cs, (look_keepV ks _ k cs hk).1, rfl⟩
  cases l with
  | tmp t => exact ⟨x, (look_keepL _ _ _ _ hx).1, .inl rfl⟩
  | cell k j =>
    simp only [ASt.at, ASt.keep] at hx ⊢
    cases hl : look (keepV ks σ.vars) k with
    | none => rw [hl] at hx; cases hx
    | some cs =>
      rw [hl] at hx
      rw [(look_keepV ks _ k cs hl).1]
      exact ⟨x, hx, .inl rfl⟩
  | comp t j =>
    simp only [ASt.at, ASt.keep] at hx ⊢
    cases hl : look (keepL ks σ.tmps) t with
    | none => rw [hl] at hx; simp [AV.compAt] at hx
    | some y =>
      rw [hl] at hx
      rw [(look_keepL _ _ _ _ hl).1]
      exact ⟨x, hx, .inl rfl⟩
  | box k => cases hx

theorem look_put (σ : ASt) (t : Nat) (x : AV) (j : Nat) : look (σ.put t x).tmps j = if j = t then some x else look σ.tmps j := look_ins t x σ.tmps j
theorem at_put_ne (σ : ASt) (t : Nat) (x : AV) (l : Loc) (h1 : l ≠ .tmp t) (h2 : ∀ j, l ≠ .comp t j) : (σ.put t x).at l = σ.at l := by
  cases l with
  | tmp j => simp only [ASt.at, look_put]; rw [if_neg (fun e : j = t => h1 (by rw [e]))]
  | cell k j => rfl
  | comp j i => simp only [ASt.at, look_put]; rw [if_neg (fun e : j = t => h2 i (by rw [e]))]
  | box k => rfl
theorem conc_put_ne (a : Act) (w : World) (t : Nat) (v : Value) (l : Loc) (h1 : l ≠ .tmp t) (h2 : ∀ j, l ≠ .comp t j) (h3 : ∀ j, l ≠ .cell t j) : conc (a.put (some t) v) w l = conc a w l := by
  cases l with
  | tmp j =>
    have : t ≠ j := fun e => h1 (e ▸ rfl)
    simp [conc, Act.put, Array.getElem?_setIfInBounds_ne this]
  | cell k j =>
    have : t ≠ k := fun e => h3 j (e ▸ rfl)
    simp [conc, Act.put, Array.getElem?_setIfInBounds_ne this]
  | comp k j =>
    have : t ≠ k := fun e => h2 j (e ▸ rfl)
    simp [conc, Act.put, Array.getElem?_setIfInBounds_ne this]
  | box k => rfl
theorem tmp_put_ne (a : Act) (t k : Nat) (v : Value) (h : k ≠ t) : (a.put (some t) v).tmps[k]? = a.tmps[k]? := by
  simp [Act.put, Array.getElem?_setIfInBounds_ne (Ne.symm h)]
theorem tmp_put_same (a : Act) (t : Nat) (v : Value) (h : t < a.tmps.size) : (a.put (some t) v).tmps[t]? = some v := by
  simp [Act.put, h]

theorem may_lt {C : Cfg} {t : Nat} (h : C.may t = true) : t < C.n := by
  simp only [Cfg.may, Bool.and_eq_true, decide_eq_true_eq] at h; exact h.1
theorem may_fix {C : Cfg} {t : Nat} (h : C.may t = true) : C.fix.contains t = false := by
  simp only [Cfg.may, Bool.and_eq_true, Bool.not_eq_true'] at h; exact h.2
theorem defs_put {F : Fx} {a : Act} {t : Nat} {v : Value} (h : a.defers = F.ds ∧ ∀ s, F.C.fix.contains s = true → a.tmps[s]? = F.a0[s]?) (ht : F.C.may t = true) :
    (a.put (some t) v).defers = F.ds ∧ ∀ s, F.C.fix.contains s = true → (a.put (some t) v).tmps[s]? = F.a0[s]? :=
  ⟨h.1, fun s hs => by rw [tmp_put_ne a t s v (fun e => by rw [e, may_fix ht] at hs; cases hs)]; exact h.2 s hs⟩
/-- A temporary is written. -/
theorem RI.put (h : RI F I own σ a w) {t : Nat} (ht : F.C.may t = true) (hv : look σ.vars t = none) {x : AV} {v : Value} (hx1 : ∀ sh sz es, x ≠ .own sh sz es) (hx2 : ∀ vs, x ≠ .tup vs)
    (hr : SRep F I own σ a w (.tmp t) x v) : RI F I own (σ.put t x) (a.put (some t) v) w := by
  have hsz : t < a.tmps.size := by rw [h.size]; exact may_lt ht
  have hk : ∀ k cs, look σ.vars k = some cs → k ≠ t := fun k cs hk e => by rw [e, hv] at hk; cases hk
  have hown : ∀ l sh sz es, (σ.put t x).at l = some (.own sh sz es) → l ≠ .tmp t ∧ (∀ j, l ≠ .comp t j) ∧ (∀ j, l ≠ .cell t j) := by
    intro l sh sz es he
    refine ⟨fun e => ?_, fun j e => ?_, fun j e => ?_⟩
    · subst e; simp only [ASt.at, look_put, if_true, Option.some.injEq] at he; exact hx1 _ _ _ he
    · subst e; simp only [ASt.at, look_put, if_true] at he
      cases x <;> simp [AV.compAt] at he
      exact hx2 _ rfl
    · subst e; simp only [ASt.at] at he
      have : look (σ.put t x).vars t = none := hv
      rw [this] at he; cases he
  have key : ∀ {l y v'}, SRep F I own σ a w l y v' → SRep F I own (σ.put t x) (a.put (some t) v) w l y v' := by
    intro l y v' hy
    refine hy.keep (Imm.leRefl I) (fun g sh sz es cap _ h1 h2 => ⟨h1, h2⟩) (fun l' _ sh sz es he => ?_) (fun k off _ cs hc => ?_)
    · obtain ⟨h1, h2, h3⟩ := hown l' sh sz es he
      rw [at_put_ne σ t x l' h1 h2] at he
      exact ⟨⟨sh, es, he⟩, conc_put_ne a w t v l' h1 h2 h3⟩
    · exact ⟨⟨cs, hc⟩, tmp_put_ne a t k v (hk k cs hc)⟩
  exact {
    imm := h.imm
    base := h.base
    inew := h.inew
    fr := h.fr
    mine := h.mine
    defs := defs_put h.defs ht
    size := by simp [Act.put, h.size]
    slots := by
      intro l y hy
      by_cases h1 : l = .tmp t
      · subst h1
        simp only [ASt.at, look_put, if_true, Option.some.injEq] at hy
        subst hy
        exact ⟨v, tmp_put_same a t v hsz, key hr⟩
      · by_cases h2 : ∃ j, l = .comp t j
        · obtain ⟨j, rfl⟩ := h2
          simp only [ASt.at, look_put, if_true] at hy
          cases x <;> simp [AV.compAt] at hy
          exact absurd rfl (hx2 _)
        · have h2' : ∀ j, l ≠ .comp t j := fun j e => h2 ⟨j, e⟩
          rw [at_put_ne σ t x l h1 h2'] at hy
          obtain ⟨v', hc, hr'⟩ := h.slots l y hy
          refine ⟨v', ?_, key hr'⟩
          rw [conc_put_ne a w t v l h1 h2' fun j e => ?_]
          · exact hc
          · subst e
            simp only [ASt.at, hv, cellAt] at hy
            cases hy
    boxes := by
      intro k cs hc
      obtain ⟨b, h1, h2, h3, h4⟩ := h.boxes k cs hc
      exact ⟨b, by rw [tmp_put_ne a t k v (hk k cs hc)]; exact h1, h2, h3, h4⟩
    quiet := by
      intro l y hy hl
      by_cases h2 : ∃ j, l = .comp t j
      · obtain ⟨j, rfl⟩ := h2
        simp only [ASt.at, look_put, if_true] at hy
        cases x <;> simp [AV.compAt] at hy
        exact absurd rfl (hx2 _)
      · rw [at_put_ne σ t x l (hl t) fun j e => h2 ⟨j, e⟩] at hy
        exact h.quiet l y hy hl
    lk := h.lk.keep (fun _ _ _ h => h) (fun _ _ _ _ => rfl) fun k cs hc => ⟨⟨cs, hc⟩, tmp_put_ne a t k v (hk k cs hc)⟩ }

/-- A row that no place holds. -/
def Free (σ : ASt) (own : Nat → Option Loc) (g : Nat) : Prop :=
  ∀ l, own g = some l → (∀ sh sz es, σ.at l ≠ some (.own sh sz es)) ∧ ∀ k, l ≠ .box k
/-- A block that no place holds, and no variable any more. -/
def FreeW (σ : ASt) (own : Nat → Option Loc) (g : Nat) : Prop :=
  ∀ l, own g = some l → (∀ sh sz es, σ.at l ≠ some (.own sh sz es)) ∧ ∀ k, l = .box k → look σ.vars k = none
theorem Free.toW {σ : ASt} {own : Nat → Option Loc} {g : Nat} (h : Free σ own g) : FreeW σ own g := fun l hl => ⟨(h l hl).1, fun k e => ((h l hl).2 k e).elim⟩

/-- A row in hand: at no place. -/
def Hand (F : Fx) (I : Imm) (own : Nat → Option Loc) (σ : ASt) (w : World) (sh : Bool) (sz : Nat) (es : List AV) (v : Value) : Prop :=
  (v = .slice none 0 0 ∧ es = []) ∨ ∃ g cap, v = .slice (some ⟨g, 0, none⟩) es.length cap ∧ Free σ own g ∧ F.mine g ∧ g < w.heap.size ∧ Row F.mine I w g sh sz es cap

def giveTo (own : Nat → Option Loc) (v : Value) (l : Loc) : Nat → Option Loc :=
  match v with
  | .slice (some p) _ _ => fun b => if b = p.block then some l else own b
  | _ => own

theorem leans_tup (l : Loc) (vs : List AV) : AV.leans l (.tup vs) = false := rfl
theorem leansVar_tup (k : Nat) (vs : List AV) : AV.leansVar k (.tup vs) = false := rfl
theorem leansComp_tup (k : Nat) (vs : List AV) : AV.leansComp k (.tup vs) = false := rfl

/-- What leans on the place l no more. -/
theorem strike_leans {l : Loc} {σ : ASt} {t : Nat} {y : AV} (h : look (VA.strike (AV.leans l) σ.tmps) t = some y) : y.leans l = false := by
  rw [look_strike] at h
  cases hl : look σ.tmps t with
  | none => rw [hl] at h; cases h
  | some x =>
    rw [hl] at h
    simp only [Option.map_some, Option.some.injEq] at h
    by_cases hx : x.leans l = true
    · rw [if_pos hx] at h; subst h; rfl
    · rw [if_neg hx] at h; subst h; simpa using hx

theorem giveTo_nil (own : Nat → Option Loc) (n c : Nat) (l : Loc) : giveTo own (.slice none n c) l = own := rfl
theorem giveTo_ne (own : Nat → Option Loc) (g n c : Nat) (l : Loc) (b : Nat) (h : b ≠ g) : giveTo own (.slice (some ⟨g, 0, none⟩) n c) l b = own b := if_neg h
theorem giveTo_same (own : Nat → Option Loc) (g n c : Nat) (l : Loc) : giveTo own (.slice (some ⟨g, 0, none⟩) n c) l g = some l := if_pos rfl

/-- A row in hand is given to a place; who stands elsewhere keeps what he has. -/
theorem hand_keep {sh : Bool} {sz : Nat} {es : List AV} {v : Value} (hh : Hand F I own σ w sh sz es v) (l l' : Loc) (g : Nat) (hg : own g = some l')
    (hl : (∃ sh sz es, σ.at l' = some (.own sh sz es)) ∨ ∃ k cs, l' = .box k ∧ look σ.vars k = some cs) : giveTo own v l g = some l' := by
  rcases hh with ⟨rfl, _⟩ | ⟨g0, cap, rfl, hf, _⟩
  · exact hg
  · rw [giveTo_ne own g0 _ _ l g]
    · exact hg
    · intro e
      subst e
      obtain ⟨h1, h2⟩ := hf l' hg
      rcases hl with ⟨sh, sz, es, hl⟩ | ⟨k, cs, rfl, hl⟩
      · exact h1 sh sz es hl
      · exact h2 k rfl
theorem hand_box {sh : Bool} {sz : Nat} {es : List AV} {v : Value} (hh : Hand F I own σ w sh sz es v) (l : Loc) (b k : Nat) (hb : own b = some (.box k)) : giveTo own v l b = some (.box k) := by
  rcases hh with ⟨rfl, _⟩ | ⟨g0, cap, rfl, hf, _⟩
  · exact hb
  · rw [giveTo_ne own g0 _ _ l b]
    · exact hb
    · intro e; subst e; exact (hf _ hb).2 k rfl
theorem hand_mine {sh : Bool} {sz : Nat} {es : List AV} {v : Value} (h : RI F I own σ a w) (hh : Hand F I own σ w sh sz es v) (l : Loc) (b : Nat) (l' : Loc) (hb : giveTo own v l b = some l') : F.mine b ∧ b < w.heap.size := by
  rcases hh with ⟨rfl, _⟩ | ⟨g0, cap, rfl, hf, h1, h2, _⟩
  · exact h.mine b l' hb
  · by_cases e : b = g0
    · subst e; exact ⟨h1, h2⟩
    · rw [giveTo_ne own g0 _ _ l b e] at hb
      exact h.mine b l' hb
theorem hand_srep {sh : Bool} {sz : Nat} {es : List AV} {v : Value} (hh : Hand F I own σ w sh sz es v) (l : Loc) {σ' : ASt} {a' : Act} : SRep F I (giveTo own v l) σ' a' w l (.own sh sz es) v := by
  rcases hh with h | ⟨g0, cap, rfl, hf, h1, h2, hr⟩
  · exact .inl h
  · exact .inr ⟨g0, cap, rfl, giveTo_same own g0 _ _ l, hr⟩

/-- A temporary is given a row. -/
theorem RI.putOwn (h0 : RI F I own σ a w) {t : Nat} (ht : F.C.may t = true) (hv : look σ.vars t = none) {sh : Bool} {sz : Nat} {es : List AV} {v : Value}
    (hh0 : Hand F I own σ w sh sz es v) : RI F I (giveTo own v (.tmp t)) (σ.putOwn t (.own sh sz es)) (a.put (some t) v) w := by
  have h := h0.strike (AV.leans (.tmp t))
  have hh : Hand F I own { σ with tmps := VA.strike (AV.leans (.tmp t)) σ.tmps } w sh sz es v := by
    rcases hh0 with h1 | ⟨g0, cap, rfl, hf, h1, h2, hr⟩
    · exact .inl h1
    · refine .inr ⟨g0, cap, rfl, fun l hl => ⟨fun sh sz es he => ?_, (hf l hl).2⟩, h1, h2, hr⟩
      obtain ⟨x0, e0, rfl | e1⟩ := at_strike _ σ l _ he
      · exact (hf l hl).1 _ _ _ e0
      · cases e1
  have hnl : ∀ l y, ASt.at { σ with tmps := VA.strike (AV.leans (.tmp t)) σ.tmps } l = some y → y.leans (.tmp t) = false := by
    intro l y hy
    by_cases e : ∃ j, l = .tmp j
    · obtain ⟨j, rfl⟩ := e; exact strike_leans hy
    · exact (h.quiet l y hy fun j e' => e ⟨j, e'⟩).1 _
  show RI F I (giveTo own v (.tmp t)) (ASt.put { σ with tmps := VA.strike (AV.leans (.tmp t)) σ.tmps } t (.own sh sz es)) (a.put (some t) v) w
  generalize hσ : ({ σ with tmps := VA.strike (AV.leans (.tmp t)) σ.tmps } : ASt) = σ1 at *
  have hv1 : look σ1.vars t = none := by rw [← hσ]; exact hv
  clear h0 hh0 hσ hv
  have hsz : t < a.tmps.size := by rw [h.size]; exact may_lt ht
  have hk : ∀ k cs, look σ1.vars k = some cs → k ≠ t := fun k cs hk e => by rw [e, hv1] at hk; cases hk
  have hat : ∀ l y, (σ1.put t (.own sh sz es)).at l = some y → l ≠ .tmp t → σ1.at l = some y ∧ (∀ j, l ≠ .comp t j) ∧ (∀ j, l ≠ .cell t j) := by
    intro l y hy h1
    have h2 : ∀ j, l ≠ .comp t j := by
      intro j e; subst e
      simp only [ASt.at, look_put, if_true, AV.compAt] at hy; cases hy
    rw [at_put_ne σ1 t _ l h1 h2] at hy
    refine ⟨hy, h2, fun j e => ?_⟩
    subst e
    simp only [ASt.at, hv1, cellAt] at hy; cases hy
  exact {
    imm := h.imm
    base := h.base
    inew := h.inew
    fr := h.fr
    mine := fun b l hb => hand_mine h hh (.tmp t) b l hb
    defs := defs_put h.defs ht
    size := by simp [Act.put, h.size]
    slots := by
      intro l y hy
      by_cases h1 : l = .tmp t
      · subst h1
        simp only [ASt.at, look_put, if_true, Option.some.injEq] at hy
        subst hy
        exact ⟨v, tmp_put_same a t v hsz, hand_srep hh _⟩
      · obtain ⟨hy', h2, h3⟩ := hat l y hy h1
        obtain ⟨v', hc, hr⟩ := h.slots l y hy'
        refine ⟨v', by rw [conc_put_ne a w t v l h1 h2 h3]; exact hc, hr.keep (Imm.leRefl I) (fun g sh' sz' es' cap e hg hrow => ⟨?_, hrow⟩) (fun l' hl' sh' sz' es' he => ?_) (fun k off _ cs hc => ?_)⟩
        · subst e
          exact hand_keep hh _ l g hg (.inl ⟨_, _, _, hy'⟩)
        · have hne : l' ≠ .tmp t := by
            intro e; subst e
            rw [hnl l y hy'] at hl'; cases hl'
          obtain ⟨he', h2', h3'⟩ := hat l' _ he hne
          exact ⟨⟨sh', es', he'⟩, conc_put_ne a w t v l' hne h2' h3'⟩
        · exact ⟨⟨cs, hc⟩, tmp_put_ne a t k v (hk k cs hc)⟩
    boxes := by
      intro k cs hc
      obtain ⟨b, h1, h2, h3, h4⟩ := h.boxes k cs hc
      exact ⟨b, by rw [tmp_put_ne a t k v (hk k cs hc)]; exact h1, hand_keep hh _ _ b h2 (.inr ⟨k, cs, rfl, hc⟩), h3, h4⟩
    quiet := by
      intro l y hy hl
      exact h.quiet l y (hat l y hy (hl t)).1 hl
    lk := h.lk.keep (fun b k _ hb => hand_box hh _ b k hb) (fun _ _ _ _ => rfl) fun k cs hc => ⟨⟨cs, hc⟩, tmp_put_ne a t k v (hk k cs hc)⟩ }

/-- A place gives up its row. -/
theorem RI.drop (h : RI F I own σ a w) (l : Loc) : RI F I own (σ.drop l) a w ∨ ∃ t, l = .tmp t ∧ look σ.tmps t = none := by
  cases l with
  | tmp t =>
    cases hl : look σ.tmps t with
    | none => exact .inr ⟨t, rfl, hl⟩
    | some x0 =>
      refine .inl (h.weaken (fun l x hx => ?_) fun _ cs hk => ⟨cs, hk, rfl⟩)
      by_cases h1 : l = .tmp t
      · subst h1
        simp only [ASt.drop, ASt.at, look_put, if_true, Option.some.injEq] at hx
        exact ⟨x0, hl, .inr hx.symm⟩
      · by_cases h2 : ∃ j, l = .comp t j
        · obtain ⟨j, rfl⟩ := h2
          simp only [ASt.drop, ASt.at, look_put, if_true, AV.compAt] at hx; cases hx
        · have : (σ.put t .bot).at l = σ.at l := at_put_ne σ t _ l h1 fun j e => h2 ⟨j, e⟩
          exact ⟨x, this ▸ hx, .inl rfl⟩
  | cell k j =>
    refine .inl ?_
    cases hk : look σ.vars k with
    | none => simp only [ASt.drop, ASt.setCell, hk, ASt.setCellO]; exact h
    | some cs =>
      simp only [ASt.drop, ASt.setCell, hk, ASt.setCellO]
      refine h.weaken (fun l x hx => ?_) fun k' cs' hk' => ?_
      · cases l with
        | cell k' j' =>
          simp only [ASt.at, look_ins] at hx ⊢
          by_cases e : k' = k
          · subst e
            simp only [if_true, cellAt, hk] at hx ⊢
            rw [List.getElem?_set] at hx
            split at hx
            · split at hx
              · rename_i e1 e2
                subst e1
                exact ⟨cs[j], List.getElem?_eq_getElem e2, .inr (Option.some.inj hx).symm⟩
              · cases hx
            · exact ⟨x, hx, .inl rfl⟩
          · simp only [e, if_false] at hx
            exact ⟨x, hx, .inl rfl⟩
        | tmp t => exact ⟨x, hx, .inl rfl⟩
        | comp t j => exact ⟨x, hx, .inl rfl⟩
        | box k => cases hx
      · rw [look_ins] at hk'
        by_cases e : k' = k
        · subst e
          simp only [if_true, Option.some.injEq] at hk'
          subst hk'
          exact ⟨cs, hk, by simp⟩
        · simp only [e, if_false] at hk'
          exact ⟨cs', hk', rfl⟩
  | comp t j =>
    refine .inl ?_
    cases ht : look σ.tmps t with
    | none => simp only [ASt.drop, ht, ASt.dropComp]; exact h
    | some y =>
      cases y with
      | tup vs =>
        simp only [ASt.drop, ht, ASt.dropComp]
        -- the tuple itself bears no less
        have hw : ∀ l x, ASt.at { σ with tmps := ins t (.tup (vs.set j .bot)) σ.tmps } l = some x → l ≠ .tmp t → ∃ x0, σ.at l = some x0 ∧ (x = x0 ∨ x = .bot) := by
          intro l x hx h1
          cases l with
          | tmp t' =>
            simp only [ASt.at, look_ins] at hx
            rw [if_neg (fun e : t' = t => h1 (by rw [e]))] at hx
            exact ⟨x, hx, .inl rfl⟩
          | cell k j => exact ⟨x, hx, .inl rfl⟩
          | comp t' j' =>
            simp only [ASt.at, look_ins] at hx ⊢
            by_cases e : t' = t
            · subst e
              simp only [if_true, AV.compAt, ht] at hx ⊢
              rw [List.getElem?_set] at hx
              split at hx
              · split at hx
                · rename_i e1 e2
                  subst e1
                  exact ⟨vs[j], List.getElem?_eq_getElem e2, .inr (Option.some.inj hx).symm⟩
                · cases hx
              · exact ⟨x, hx, .inl rfl⟩
            · simp only [e, if_false] at hx
              exact ⟨x, hx, .inl rfl⟩
          | box k => cases hx
        exact {
          imm := h.imm
          base := h.base
          inew := h.inew
          fr := h.fr
          mine := h.mine
          defs := h.defs
          size := h.size
          boxes := h.boxes
          slots := by
            intro l x hx
            by_cases h1 : l = .tmp t
            · subst h1
              simp only [ASt.at, look_ins, if_true, Option.some.injEq] at hx
              subst hx
              obtain ⟨v, hc, arr, h2, h3⟩ := h.slots (.tmp t) _ ht
              exact ⟨v, hc, arr, h2, by rw [h3]; simp⟩
            · obtain ⟨x0, e0, rfl | rfl⟩ := hw l x hx h1
              · obtain ⟨v, hc, hr⟩ := h.slots l x e0
                refine ⟨v, hc, hr.keep (Imm.leRefl I) (fun g sh sz es cap _ h1 h2 => ⟨h1, h2⟩) (fun l' _ sh sz es he => ?_) (fun k off _ cs hk => ⟨⟨cs, hk⟩, rfl⟩)⟩
                have hne : l' ≠ .tmp t := by
                  intro e; subst e
                  simp only [ASt.at, look_ins, if_true] at he; cases he
                obtain ⟨x1, e1, rfl | e2⟩ := hw l' _ he hne
                · exact ⟨⟨sh, es, e1⟩, rfl⟩
                · cases e2
              · obtain ⟨v, hc, _⟩ := h.slots l x0 e0
                exact ⟨v, hc, trivial⟩
          quiet := by
            intro l x hx hl
            obtain ⟨x0, e0, rfl | rfl⟩ := hw l x hx (hl t)
            · exact h.quiet l x e0 hl
            · exact ⟨fun _ => rfl, fun _ => rfl⟩
          lk := h.lk.keep (fun _ _ _ h => h) (fun _ _ _ _ => rfl) fun k cs hk => ⟨⟨cs, hk⟩, rfl⟩ }
      | _ => simp only [ASt.drop, ht, ASt.dropComp]; exact h
  | box k => exact .inl h

/-- The row that a place held, in hand. -/
theorem RI.inHand (h : RI F I own σ a w) {l : Loc} {sh : Bool} {sz : Nat} {es : List AV} (hl : σ.at l = some (.own sh sz es)) :
    ∃ v, conc a w l = some v ∧ RI F I own (σ.drop l) a w ∧ Hand F I own (σ.drop l) w sh sz es v := by
  obtain ⟨v, hc, hr⟩ := h.slots l _ hl
  have hd : RI F I own (σ.drop l) a w := by
    rcases h.drop l with hd | ⟨t, rfl, ht⟩
    · exact hd
    · simp only [ASt.at] at hl; rw [ht] at hl; cases hl
  refine ⟨v, hc, hd, ?_⟩
  rcases hr with hn | ⟨g, cap, rfl, hg, hrow⟩
  · exact .inl hn
  · refine .inr ⟨g, cap, rfl, fun l' hl' => ?_, (h.mine g l hg).1, (h.mine g l hg).2, hrow⟩
    rw [hg] at hl'
    cases hl'
    refine ⟨fun sh' sz' es' he => ?_, fun k e => ?_⟩
    · cases l with
      | tmp t => simp only [ASt.drop, ASt.at, look_put, if_true] at he; cases he
      | cell k j =>
        simp only [ASt.at] at hl
        cases hk : look σ.vars k with
        | none => rw [hk] at hl; cases hl
        | some cs =>
          rw [hk] at hl
          simp only [ASt.drop, ASt.setCell, hk, ASt.setCellO, ASt.at, look_ins, if_true, cellAt] at he hl
          rw [List.getElem?_set] at he
          have := (List.getElem?_eq_some_iff.1 hl).1
          simp [this] at he
      | comp t j =>
        simp only [ASt.at] at hl
        cases ht : look σ.tmps t with
        | none => rw [ht] at hl; cases hl
        | some y =>
          rw [ht] at hl
          cases y <;> simp only [AV.compAt] at hl <;> try cases hl
          rename_i vs
          simp only [ASt.drop, ht, ASt.dropComp, ASt.at, look_ins, if_true, AV.compAt] at he
          rw [List.getElem?_set] at he
          have := (List.getElem?_eq_some_iff.1 hl).1
          simp [this] at he
      | box k => cases hl
    · subst e; cases hl

end
end Go.Proofs.Ytjfnmlheehbojaa.VA
