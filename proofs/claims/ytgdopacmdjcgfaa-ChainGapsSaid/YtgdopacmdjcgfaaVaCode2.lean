/- The abstract machine is sound: code. -/
import Derived.Test.YtgdopacmdjcgfaaVaOrd
import Derived.Scope
namespace Go.Proofs.Ytgdopacmdjcgfaa.VA
section
variable {F : Fx} {I : Imm} {own : Nat → Option Loc} {σ : ASt} {a : Act} {w w' : World} {C : Cfg} {K : ASt → Prop} {Q : Exit → Act → World → Prop}

/-- What is owed at an exit. -/
def lift (F : Fx) (Q : AEx → ASt → Prop) : Exit → Act → World → Prop
  | .normal, a, w => Post F (Q .normal) a w
  | .exit id, a, w => Post F (Q (.exit id)) a w
  | .ret, a, w => Post F (Q .ret) a w
  | _, _, _ => False

theorem cond_ok (h : RI F I own σ a w) {c : Operand} {P1 P2 : Prop} (hw : condA σ P1 P2 (σ.rd C 0 c)) : ∃ t, a.eval c = .bool t ∧ (t = true → P1) ∧ (t = false → P2) := by
  have hc := rd_ok h C 0 c
  generalize σ.rd C 0 c = x at hc hw
  cases x <;> simp only [condA] at hw <;> try exact hw.elim
  rename_i t
  exact ⟨t, ar_bool ((rv_imm rfl).1 hc), hw.1, hw.2⟩

/-- The abstract weakest precondition of code is one. -/
theorem aco_ok (hC : F.C = C) (hok : CfgOk C) (hlk : F.open) : ∀ (c : Code) (Q : AEx → ASt → Prop) (σ : ASt) (I : Imm) (own : Nat → Option Loc) (a : Act) (w : World), RI F I own σ a w → aco C c Q σ → c.wp C.P (lift F Q) a w := by
  intro c
  induction c with
  | skip => exact fun Q σ I own a w h hw => wp_skip ⟨I, own, σ, h, hw⟩
  | scope c ih =>
    intro Q σ I own a w h hw
    refine wp_scope_straight (Code.wp_mono (fun e a' w' hq => ?_) (ih Q σ I own a w h hw))
    cases e <;> exact hq
  | label l => exact fun Q σ I own a w h hw => wp_label ⟨I, own, σ, h, hw⟩
  | region id ops draws =>
    intro Q σ I own a w h hw
    have hQ : ∀ a w, Post F (fun σ' => Q .normal (σ'.keep C.live)) a w → lift F Q .normal a w := fun a w ⟨J, own', τ, h1, h2⟩ => ⟨J, own', _, h1.keep _, h2⟩
    cases draws with
    | false => exact wp_region_list (aops_ok hC hok hlk hQ ops.toList σ I own a w h hw)
    | true =>
      obtain ⟨B, ns, t, hb, hw⟩ := hw
      simp only [Bool.and_eq_true, decide_eq_true_eq] at hb
      have h1 := h.grow (fr_drew w)
      obtain ⟨h2, hB⟩ := h1.rebase (lv := lvOf ns) (lk := fun b => ∃ k cs, lvOf ns k = true ∧ look σ.vars k = some cs ∧ a.tmps[k]? = some (.pointer (some ⟨b, 0, none⟩))) (fun b ⟨k, cs, e0, e1, e2⟩ => by
        obtain ⟨b', f1, f2, _⟩ := h1.boxes k cs e1
        rw [e2] at f1
        cases f1
        exact ⟨k, f2, e0⟩) (fun k e0 cs b e1 e2 => ⟨k, cs, e0, e1, e2⟩)
      refine wp_region_any hok.mixed (Held.any _ _ I a _ (ord_ok hlk hC hok hb.2.1 hb.1 hQ (fun c a w h => h) t true _ _ σ I own _ a _ hb.2.2.1 hb.2.2.2 hB (fun _ => ⟨rfl, rfl, fun b _ => rfl⟩) (fun e => by cases e) h2 hw))
  | seq x y ihx ihy =>
    intro Q σ I own a w h hw
    refine wp_seq (Code.wp_mono ?_ (ihx _ σ I own a w h hw))
    intro e a' w' hq
    cases e with
    | normal => obtain ⟨J, own', τ, h1, h2⟩ := hq; exact ihy Q τ J own' a' w' h1 h2
    | exit id => exact hq
    | ret => exact hq
    | goto l => exact hq.elim
    | panic ch => exact hq.elim
    | outgrown => exact hq.elim
  | cond c x y ihx ihy =>
    intro Q σ I own a w h hw
    obtain ⟨t, ht, h1, h2⟩ := cond_ok h hw
    exact wp_cond_split ht (fun e => ihx Q σ I own a w h (h1 e)) (fun e => ihy Q σ I own a w h (h2 e))
  | block id c ih =>
    intro Q σ I own a w h hw
    refine wp_block (Code.wp_mono ?_ (ih _ σ I own a w h hw))
    intro e a' w' hq
    cases e with
    | normal => exact hq
    | exit i =>
      obtain ⟨J, own', τ, h1, h2⟩ := hq
      simp only [AEx.inBlock] at h2
      simp only [Exit.inBlock]
      split
      · rename_i e
        rw [if_pos e] at h2
        exact ⟨J, own', τ, h1, h2⟩
      · rename_i e
        rw [if_neg e] at h2
        exact ⟨J, own', τ, h1, h2⟩
    | ret => exact hq
    | goto l => exact hq.elim
    | panic ch => exact hq.elim
    | outgrown => exact hq.elim
  | loop c ih =>
    intro Q σ I own a w h hw
    obtain ⟨L, n, hw⟩ := hw
    refine wp_loop_rounds n ?_
    induction n generalizing σ I own a w with
    | zero => exact hw.elim
    | succ n ihn =>
      refine Code.wp_mono ?_ (ih _ _ I own a w (h.keep L) hw)
      intro e a' w' hq
      cases e with
      | normal => obtain ⟨J, own', τ, h1, h2⟩ := hq; exact ihn τ J own' a' w' h1 h2
      | exit id => exact hq
      | ret => exact hq
      | goto l => exact hq.elim
      | panic ch => exact hq.elim
      | outgrown => exact hq.elim
  | exit id => exact fun Q σ I own a w h hw => wp_exit ⟨I, own, σ, h, hw⟩
  | ret => exact fun Q σ I own a w h hw => wp_ret ⟨I, own, σ, h, hw⟩
  | _ => exact fun Q σ I own a w h hw => hw.elim

end
end Go.Proofs.Ytgdopacmdjcgfaa.VA
