/- The abstract machine is sound: code. -/
import Derived.Test.YtjfnmlheehbojaaVaLoop
namespace Go.Proofs.Ytjfnmlheehbojaa.VA
section
variable {F : Fx} {I : Imm} {own : Nat → Option Loc} {σ : ASt} {a : Act} {w w' : World} {C : Cfg} {K : ASt → Prop} {Q : Exit → Act → World → Prop}

theorem cond_ok (h : RI F I own σ a w) {c : Operand} {P1 P2 : Prop} (hw : condA σ P1 P2 (σ.rd C 0 c)) : ∃ t, a.eval c = .bool t ∧ (t = true → P1) ∧ (t = false → P2) := by
  have hc := rd_ok h C 0 c
  generalize σ.rd C 0 c = x at hc hw
  cases x <;> simp only [condA] at hw <;> try exact hw.elim
  rename_i t
  exact ⟨t, ar_bool ((rv_imm rfl).1 hc), hw.1, hw.2⟩

/-- No deferred call. -/
def noDeferC : Code → Bool
  | .region _ ops _ => noDeferB ops
  | .seq a b => noDeferC a && noDeferC b
  | .cond _ a b => noDeferC a && noDeferC b
  | .block _ c => noDeferC c
  | .loop c => noDeferC c
  | .scope c => noDeferC c
  | .rangeFunc _ _ a b => noDeferC a && noDeferC b
  | _ => true
/-- The abstract weakest precondition of code is one. -/
theorem aco_ok : ∀ (c : Code), noDeferC c = true → ∀ (C : Cfg), CfgOk C → ∀ (F : Fx), F.C = C → F.open → ∀ (r : Option Nat), (r = none ∨ C.inr = true) → ∀ (Q : AEx → ASt → Prop) (σ : ASt) (I : Imm) (own : Nat → Option Loc) (a : Act) (w : World),
    RI F I own σ a w → aco C c Q σ → c.wpIn (fen r) 0 C.P (lift F Q) a w := by
  intro c
  induction c with
  | skip => exact fun hd C hok F hC hlk r hr Q σ I own a w h hw => wpIn_skip (Post.x ⟨I, own, σ, h, hw⟩ hlk)
  | scope c ih =>
    intro hd C hok F hC hlk r hr Q σ I own a w h hw
    refine wpIn_scope_straight (wpIn_mono (ih hd C hok F hC hlk r hr Q σ I own a w h hw) (fun e a' w' hq => ?_))
    cases e <;> exact hq
  | label l => exact fun hd C hok F hC hlk r hr Q σ I own a w h hw => wpIn_label (Post.x ⟨I, own, σ, h, hw⟩ hlk)
  | region id ops draws =>
    intro hd C hok F hC hlk r hr Q σ I own a w h hw
    have hQ : ∀ a w, Post F (fun σ' => Q .normal (σ'.keep C.live)) a w → lift F Q .normal a w := fun a w ⟨J, own', τ, h1, h2⟩ => Post.x ⟨J, own', _, h1.keep _, h2⟩ hlk
    cases draws with
    | false => exact region_in (noDefer_of hd) lift_lets (aops_ok hC hok hlk hQ ops.toList σ I own a w h hw)
    | true =>
      obtain ⟨B, ns, t, hb, hw⟩ := hw
      simp only [Bool.and_eq_true, decide_eq_true_eq] at hb
      have h1 := h.grow (fr_drew w)
      obtain ⟨h2, hB⟩ := h1.rebase (lv := lvOf ns) (lk := fun b => ∃ k cs, lvOf ns k = true ∧ look σ.vars k = some cs ∧ a.tmps[k]? = some (.pointer (some ⟨b, 0, none⟩))) (fun b ⟨k, cs, e0, e1, e2⟩ => by
        obtain ⟨b', f1, f2, _⟩ := h1.boxes k cs e1
        rw [e2] at f1
        cases f1
        exact ⟨k, f2, e0⟩) (fun k e0 cs b e1 e2 => ⟨k, cs, e0, e1, e2⟩)
      refine wpIn_region_any hok.mixed (any_in (noDefer_of hd) lift_lets _ _ _ _ (Held.any _ _ I a _ (ord_ok hlk hC hok hb.2.1 hb.1 hQ (fun c a w h => h) t true _ _ σ I own _ a _ hb.2.2.1 hb.2.2.2 hB (fun _ => ⟨rfl, rfl, fun b _ => rfl⟩) (fun e => by cases e) h2 hw)))
  | seq x y ihx ihy =>
    intro hd C hok F hC hlk r hr Q σ I own a w h hw
    simp only [noDeferC, Bool.and_eq_true] at hd
    refine wpIn_seq (wpIn_mono (ihx hd.1 C hok F hC hlk r hr _ σ I own a w h hw) ?_)
    intro e a' w' hq
    cases e with
    | normal =>
      obtain ⟨F2, hE, J, own', τ, h1, h2⟩ := hq
      exact wpIn_mono (ihy hd.2 C hok F2 (hE.cfg.trans hC) hE.opn r hr Q τ J own' a' w' h1 h2) fun e a w hq => lift_trans hE hq
    | exit id => exact hq
    | ret => exact hq
    | goto l => exact hq.elim
    | panic ch => exact hq.elim
    | outgrown => exact hq.elim
  | cond c x y ihx ihy =>
    intro hd C hok F hC hlk r hr Q σ I own a w h hw
    simp only [noDeferC, Bool.and_eq_true] at hd
    obtain ⟨t, ht, h1, h2⟩ := cond_ok h hw
    exact wpIn_cond_split ht (fun e => ihx hd.1 C hok F hC hlk r hr Q σ I own a w h (h1 e)) (fun e => ihy hd.2 C hok F hC hlk r hr Q σ I own a w h (h2 e))
  | block id c ih =>
    intro hd C hok F hC hlk r hr Q σ I own a w h hw
    refine wpIn_block (wpIn_mono (ih hd C hok F hC hlk r hr _ σ I own a w h hw) ?_)
    intro e a' w' hq
    cases e with
    | normal => exact hq
    | exit i =>
      obtain ⟨F2, hE, J, own', τ, h1, h2⟩ := hq
      simp only [AEx.inBlock] at h2
      simp only [Exit.inBlock]
      split
      · rename_i e
        rw [if_pos e] at h2
        exact ⟨F2, hE, J, own', τ, h1, h2⟩
      · rename_i e
        rw [if_neg e] at h2
        exact ⟨F2, hE, J, own', τ, h1, h2⟩
    | ret => exact hq
    | goto l => exact hq.elim
    | panic ch => exact hq.elim
    | outgrown => exact hq.elim
  | loop c ih =>
    intro hd C hok F hC hlk r hr Q σ I own a w h hw
    obtain ⟨L, n, hw⟩ := hw
    refine wpIn_loop_rounds n ?_
    have key : ∀ (n : Nat) (F2 : Fx) (σ : ASt) (I : Imm) (own : Nat → Option Loc) (a : Act) (w : World), Ext F F2 → RI F2 I own σ a w → arounds L (aco C c) Q n σ → Code.roundsIn (fen r) 0 C.P c (lift F Q) n a w := by
      intro n
      induction n with
      | zero => exact fun F2 σ I own a w hE h hw => hw.elim
      | succ n ihn =>
        intro F2 σ I own a w hE h hw
        refine wpIn_mono (ih hd C hok F2 (hE.cfg.trans hC) hE.opn r hr _ _ I own a w (h.keep L) hw) ?_
        intro e a' w' hq
        cases e with
        | normal => obtain ⟨F3, hE3, J, own', τ, h1, h2⟩ := hq; exact ihn F3 τ J own' a' w' (hE.trans hE3) h1 h2
        | exit id => exact PostX.trans hE hq
        | ret => exact PostX.trans hE hq
        | goto l => exact hq.elim
        | panic ch => exact hq.elim
        | outgrown => exact hq.elim
    exact key n F σ I own a w (Ext.refl hlk) h hw
  | exit id => exact fun hd C hok F hC hlk r hr Q σ I own a w h hw => wpIn_exit (Post.x ⟨I, own, σ, h, hw⟩ hlk)
  | ret => exact fun hd C hok F hC hlk r hr Q σ I own a w h hw => wpIn_ret (Post.x ⟨I, own, σ, h, hw⟩ hlk)
  | rangeFunc g ps assign body iha ihb =>
    intro hd C hok F hC hlk r hr Q σ I own a w h hw
    simp only [noDeferC, Bool.and_eq_true] at hd
    cases assign with
    | region id ops draws =>
      cases draws with
      | false =>
        have hinr : C.inr = false := by obtain ⟨_, _, _, _, _, ⟨e, _⟩, _⟩ := hw; exact e
        obtain rfl : r = none := hr.resolve_right (by rw [hinr]; decide)
        refine range_ok hok hd.1 (fun C' hok' hi' hP F' hC' hlk' r Q σ I own a w h hw => ?_) hC hlk h hw
        rw [← hP]
        exact ihb hd.2 C' hok' F' hC' hlk' r (.inr hi') Q σ I own a w h hw
      | true => exact hw.elim
    | _ => exact hw.elim
  | _ => exact fun hd C hok F hC hlk r hr Q σ I own a w h hw => hw.elim

end
end Go.Proofs.Ytjfnmlheehbojaa.VA
