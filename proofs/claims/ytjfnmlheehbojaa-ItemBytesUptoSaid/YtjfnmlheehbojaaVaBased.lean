/- A state seen from a later begin. -/
import Derived.Test.YtjfnmlheehbojaaVaQuiet
namespace Go.Proofs.Ytjfnmlheehbojaa.VA
section
variable {F F' : Fx} {I : Imm} {own : Nat → Option Loc} {σ : ASt} {a : Act} {w w' : World}

theorem Row.mono {M N : Nat → Prop} {g : Nat} {sh : Bool} {sz cap : Nat} {es : List AV} (h : Row M I w g sh sz es cap) (hM : ∀ b, M b → N b) : Row N I w g sh sz es cap :=
  h.keep hM (Imm.leRefl I) (fun _ h => h) (fun _ => rfl) (fun _ => rfl)
theorem SRep.mono (hM : ∀ b, F.mine b → F'.mine b) {l : Loc} {x : AV} {v : Value} (h : SRep F I own σ a w l x v) : SRep F' I own σ a w l x v := by
  have him : x.isImm = true → SRep F' I own σ a w l x v := fun hx => (srep_imm hx).2 (((srep_imm hx).1 h).mono hM (Imm.leRefl I))
  cases x with
  | bot => trivial
  | undef => exact h
  | own sh sz es =>
    rcases h with h | ⟨g, cap, h1, h2, h3⟩
    · exact .inl h
    · exact .inr ⟨g, cap, h1, h2, h3.mono hM⟩
  | ref l' => exact h
  | var k off => exact h
  | elt y i off =>
    cases y with
    | ref l' => exact h
    | sl fr sz es =>
      obtain ⟨b, o, n, cap, h1, h2⟩ := h
      exact ⟨b, o, n, cap, h1.mono hM (Imm.leRefl I), h2⟩
    | _ => exact h.elim
  | tup vs => exact h
  | bool => exact him rfl
  | int => exact him rfl
  | str => exact him rfl
  | fn => exact him rfl
  | nilf => exact him rfl
  | agg => exact him rfl
  | sl => exact him rfl
  | ext => exact him rfl

/-- F' begins later than F, within it. -/
structure Based (F F' : Fx) : Prop where
  cfg : F'.C = F.C
  mine : ∀ b, F'.mine b → F.mine b
  le : Imm.le F.I0 F'.I0
  inew : ∀ b o v, F'.I0 b o = some v → F.I0 b o = some v ∨ F.mine b
  fr : Fr F.w0 F'.w0 F.S
  ds : F'.ds = F.ds
  a0 : F'.a0 = F.a0
theorem Based.refl (F : Fx) : Based F F := ⟨rfl, fun _ h => h, Imm.leRefl _, fun _ _ _ h => .inl h, ⟨rfl, rfl, rfl, Nat.le_refl _, fun _ _ _ => rfl⟩, rfl, rfl⟩

/-- The same state, seen from here on. -/
def Fx.at (F : Fx) (w : World) (I : Imm) (lv : Nat → Bool) (lk : Nat → Prop) : Fx := ⟨F.C, w, I, F.mine, lv, lk, F.ds, F.a0⟩
theorem RI.rebase (h : RI F I own σ a w) {lv : Nat → Bool} {lk : Nat → Prop} (hl : ∀ b, lk b → ∃ k, own b = some (.box k) ∧ lv k = true) (ha : ∀ k, lv k = true → ∀ cs b, look σ.vars k = some cs → a.tmps[k]? = some (.pointer (some ⟨b, 0, none⟩)) → lk b) :
    RI (F.at w I lv lk) I own σ a w ∧ Based F (F.at w I lv lk) := by
  have hM : ∀ b, F.mine b → (F.at w I lv lk).mine b := fun b hb => .inr hb
  refine ⟨{
    imm := h.imm
    base := Imm.leRefl I
    inew := fun b o v hb => .inl hb
    fr := ⟨rfl, rfl, rfl, Nat.le_refl _, fun _ _ _ => rfl⟩
    mine := fun b l hb => ⟨hM b (h.mine b l hb).1, (h.mine b l hb).2⟩
    defs := h.defs
    size := h.size
    slots := fun l x hx => by
      obtain ⟨v, h1, h2⟩ := h.slots l x hx
      exact ⟨v, h1, h2.mono hM⟩
    boxes := h.boxes
    quiet := h.quiet
    lk := ⟨fun b hb => ⟨rfl, hl b hb⟩, ha⟩ }, ⟨rfl, fun b hb => ?_, h.base, h.inew, h.fr, rfl, rfl⟩⟩
  rcases hb with hb | hb
  · exact .inl (Nat.le_trans h.fr.size hb)
  · exact hb
/-- .. and back. -/
theorem RI.back (hB : Based F F') (hF : F.open) (h : RI F' I own σ a w) : RI F I own σ a w where
  imm := h.imm
  base := hB.le.trans h.base
  inew b o v hb := by
    rcases h.inew b o v hb with e | e
    · exact hB.inew b o v e
    · exact .inr (hB.mine b e)
  fr := by
    refine ⟨h.fr.os.trans hB.fr.os, h.fr.tape.trans hB.fr.tape, h.fr.output.trans hB.fr.output, Nat.le_trans hB.fr.size h.fr.size, fun k hk hp => ?_⟩
    rw [h.fr.block k (Nat.lt_of_lt_of_le hk hB.fr.size) fun e => ?_]
    · exact hB.fr.block k hk hp
    · rcases hB.mine k (.inr e) with e2 | e2
      · omega
      · exact hp e2
  mine b l hb := ⟨hB.mine b (h.mine b l hb).1, (h.mine b l hb).2⟩
  defs := by rw [← hB.ds, ← hB.a0, ← hB.cfg]; exact h.defs
  size := by rw [h.size, hB.cfg]
  slots l x hx := by
    obtain ⟨v, h1, h2⟩ := h.slots l x hx
    exact ⟨v, h1, h2.mono hB.mine⟩
  boxes := h.boxes
  quiet := h.quiet
  lk := ⟨fun b hb => (hF.2 b hb).elim, fun k e => by rw [hF.1] at e; cases e⟩
theorem Based.trans {F1 F2 F3 : Fx} (h : Based F1 F2) (k : Based F2 F3) : Based F1 F3 := by
  refine ⟨k.cfg.trans h.cfg, fun b hb => h.mine b (k.mine b hb), h.le.trans k.le, fun b o v hb => ?_, ?_, k.ds.trans h.ds, k.a0.trans h.a0⟩
  · rcases k.inew b o v hb with e | e
    · exact h.inew b o v e
    · exact .inr (h.mine b e)
  · refine ⟨k.fr.os.trans h.fr.os, k.fr.tape.trans h.fr.tape, k.fr.output.trans h.fr.output, Nat.le_trans h.fr.size k.fr.size, fun j hj hp => ?_⟩
    rw [k.fr.block j (Nat.lt_of_lt_of_le hj h.fr.size) fun e => ?_]
    · exact h.fr.block j hj hp
    · rcases h.mine j (.inr e) with e2 | e2
      · omega
      · exact hp e2
end
end Go.Proofs.Ytjfnmlheehbojaa.VA
