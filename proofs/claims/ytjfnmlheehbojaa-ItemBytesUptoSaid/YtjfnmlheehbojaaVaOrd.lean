/- An order of a drawn region's operations that stands for all of them. -/
import Derived.Test.YtjfnmlheehbojaaVaDraw
namespace Go.Proofs.Ytjfnmlheehbojaa.VA

section
variable {F : Fx} {I : Imm} {own : Nat → Option Loc} {σ : ASt} {a : Act} {w w' : World} {C : Cfg} {K : ASt → Prop} {Q : Exit → Act → World → Prop}

theorem quiet_op (hC : F.C = C) (hok : CfgOk C) (h : RI F I own σ a w) {o : Oper} {ns : List Nat} (hlk : pureOp o.op = true ∨ ∀ k, ns.contains k = false → F.lv k = true) (hq : quietOp C ns σ o.op = true) (hw : (opR C σ o.dst o.type o.op).wp C K) : Quiet F I C.P o a w (Post F K) := by
  obtain ⟨dst, op, ty, pos, after, g⟩ := o
  simp only at hw hq
  cases op with
  | move x => exact op_move hC h hw
  | assign x => exact op_assign hC h hw
  | pick c x y => exact op_pick hC h hw
  | load T x =>
    refine op_loadQ hC hok h (fun k off e => ?_) (fun l i off e => ?_) hw
    · simp only [quietOp, e, quietLoad, Bool.not_eq_true'] at hq
      exact hlk.resolve_left (by simp [pureOp]) k hq
    · simp only [quietOp, e, quietLoad] at hq
      cases hq
  | binOp op T x y T2 => exact op_bin hC hok h hw
  | unOp op T x => exact op_un hC h hw
  | convert S T x => exact op_convertQ hC hok h hq hw
  | makeFunc fn first captured =>
    cases fn <;> simp only [opR] at hw <;> try exact hw.elim
    exact op_makeFunc hC h hw
  | slice T x lo hi mx =>
    cases mx with
    | none => exact op_slice hC hok h hw
    | some m => exact hw.elim
  | fieldAddr T x f => exact op_fieldAddr hC hok h hw
  | field T x f => exact op_field hC hok h hw
  | indexAddr T x ix => exact op_indexAddr hC hok h hw
  | index T x ix => exact op_index hC hok h hw
  | extract x i =>
    cases x <;> simp only [opR] at hw <;> try exact hw.elim
    exact op_extract hC h hw
  | call c =>
    cases hcl : c.callee with
    | builtin b =>
      simp only [quietOp, hcl] at hq
      cases b <;> simp only [quietCallee] at hq <;> first | exact op_len hC hok h hcl hw | exact op_max hC h hcl hw | cases hq
    | value x => simp only [quietOp, hcl, quietCallee] at hq; cases hq
    | invoke r n => simp only [quietOp, hcl, quietCallee] at hq; cases hq
  | _ => cases hq

theorem quietOp_again {ns : List Nat} {t : Nat} {x : AV} (hx : look σ.tmps t = some x) (o : Op) : quietOp C ns { σ with tmps := ins t x σ.tmps } o = quietOp C ns σ o := by
  cases o <;> try rfl
  case load T y => simp only [quietOp, rd_again hx]
  case makeFunc f x y => cases f <;> rfl
  case slice T x lo hi mx => cases mx <;> rfl
  case extract x i => cases x <;> rfl

theorem quiet_step (hC : F.C = C) (hok : CfgOk C) (h : RI F I own σ a w) {ops : Array Oper} {o : Oper} {ns : List Nat} (hlk : pureOp o.op = true ∨ ∀ k, ns.contains k = false → F.lv k = true) (hq : quietOp C ns σ o.op = true) (hw : (stepR C ops.toList σ o).wp C K) :
    ∃ v, YieldsIf C.P ops (Later F I) o v a ∧ Post F K (a.put o.dst v) w := by
  unfold stepR at hw
  cases hg : o.guard with
  | none =>
    rw [hg] at hw
    obtain ⟨v, h1, h2⟩ := quiet_op hC hok h hlk hq hw
    exact ⟨v, .inl ⟨by simp [Region.wanted, hg], h1⟩, h2⟩
  | some p =>
    obtain ⟨j, want⟩ := p
    rw [hg] at hw
    simp only at hw
    rw [Array.getElem?_toList] at hw
    have hwd : Region.wanted o (yielded ops a.tmps) = (yielded ops a.tmps j == some want) := by simp [Region.wanted, hg]
    cases ht : (ops[j]?).bind (·.dst) with
    | none => rw [ht] at hw; exact hw.elim
    | some t =>
      rw [ht] at hw
      simp only [grdT] at hw
      cases hl : look σ.tmps t with
      | none => rw [hl] at hw; exact hw.elim
      | some y =>
        rw [hl] at hw
        obtain ⟨v, hv, hr⟩ := h.slots (.tmp t) y hl
        simp only [conc] at hv
        rw [yielded_eq ht hv] at hwd
        cases y <;> simp only [grdO] at hw <;> try exact hw.elim
        case undef =>
          have : v = undef := hr
          subst this
          exact ⟨undef, .inr ⟨by rw [hwd]; simp [yieldOf, undef], rfl⟩, wr_ok hC h hw (fun _ _ _ e => by cases e) rfl⟩
        case bool b =>
          have e := ar_bool ((srep_imm rfl).1 hr)
          subst e
          simp only [yieldOf] at hwd
          obtain ⟨h1, h2⟩ := hw
          cases hb : (b == want) with
          | true =>
            obtain rfl : b = want := by simpa using hb
            obtain ⟨v, k1, k2⟩ := quiet_op hC hok (h.again hl) hlk (by rw [quietOp_again hl]; exact hq) (h1 hb)
            exact ⟨v, .inl ⟨by rw [hwd]; simp, k1⟩, k2⟩
          | false =>
            have hne : b = !want := by cases b <;> cases want <;> simp_all
            have hl' := hl
            rw [hne] at hl'
            exact ⟨undef, .inr ⟨by rw [hwd]; exact hb, rfl⟩, wr_ok hC (h.again hl') (h2 hb) (fun _ _ _ e => by cases e) rfl⟩

theorem Held.mono {P : Program} {ops : Array Oper} {B : List Nat} {S0 : World → Prop} {J : Imm} (hle : Imm.le I J) {n : Nat} {listed : Array Bool} (h : Held P ops Q B S0 n listed J a w) : Held P ops Q B S0 n listed I a w := by
  cases n with
  | zero => exact h
  | succ n =>
    refine ⟨h.1, fun i hi => wpOp_mono (fun a' w' h' => ?_) (h.2 i hi)⟩
    obtain ⟨J', ⟨c1, c2, c3⟩, hH⟩ := h'
    exact ⟨J', ⟨hle.trans c1, c2, c3⟩, hH⟩
/-- What looks at values alone yields its value in whatever world. -/
theorem pure_step (hC : F.C = C) (hok : CfgOk C) (h : RI F I own σ a w) {ops : Array Oper} {o : Oper} {ns : List Nat} (hp : pureOp o.op = true) (hq : quietOp C ns σ o.op = true) (hw : (stepR C ops.toList σ o).wp C K) :
    ∃ v, YieldsIf C.P ops (fun w => Imm.ok I w) o v a ∧ Post F K (a.put o.dst v) w := by
  obtain ⟨v, hy, hpost⟩ := quiet_step hC hok h (.inl hp) hq hw
  obtain ⟨h0, _⟩ := h.rebase (lv := fun _ => false) (lk := fun _ => False) (fun _ hb => hb.elim) (fun k e => by cases e)
  obtain ⟨v0, hy0, _⟩ := quiet_step (F := F.at w I (fun _ => false) (fun _ => False)) (K := K) hC hok h0 (.inl hp) hq hw
  refine ⟨v, ?_, hpost⟩
  have hL : Later F I w := ⟨h.imm, fun b hb => (h.lk.stay b hb).1⟩
  rcases hy with ⟨p, q⟩ | ⟨p, q⟩
  · rcases hy0 with ⟨_, q0⟩ | ⟨p0, _⟩
    · have e1 := q w hL
      have e2 := q0 w ⟨h.imm, fun b hb => hb.elim⟩
      rw [e1] at e2
      obtain rfl : v = v0 := by cases e2; rfl
      exact .inl ⟨p, fun w2 hw2 => q0 w2 ⟨hw2, fun b hb => hb.elim⟩⟩
    · rw [p] at p0; cases p0
  · exact .inr ⟨p, q⟩

theorem Held.done {P : Program} {ops : Array Oper} {B : List Nat} {S0 : World → Prop} {n : Nat} {listed : Array Bool} (hr : Region.ready .any ops listed = []) (h : Q .normal a w) : Held P ops Q B S0 n listed I a w := by
  cases n with
  | zero => exact ⟨hr, h⟩
  | succ n => exact ⟨fun _ => h, fun i hi => by rw [hr] at hi; cases hi⟩

def lvOf (ns : List Nat) (k : Nat) : Bool := !ns.contains k
theorem okLk_locked {ns : List Nat} {L : Nat → Prop} {o : Oper} (h : lockedOk o.op = true) (hm : madeB ns o = true) (τ : ASt) : OkLk (F.at w I (lvOf ns) L) τ o := by
  obtain ⟨dst, op, ty, pos, after, g⟩ := o
  cases op <;> try trivial
  · intro d e
    obtain rfl : dst = some d := e
    simp only [madeB] at hm
    show lvOf ns d = false
    unfold lvOf; rw [hm]; rfl
  · intro d e
    obtain rfl : dst = some d := e
    simp only [madeB] at hm
    show lvOf ns d = false
    unfold lvOf; rw [hm]; rfl
theorem ord_ok {F0 : Fx} (hF0 : F0.open) (hC0 : F0.C = C) (hok : CfgOk C) {ops : Array Oper} {B ns : List Nat} {W : World} {L : Nat → Prop} (hns : ops.toList.all (madeB ns) = true) (hsel : Region.noSelect ops = true) (hK : ∀ a w, Post F0 K a w → Q .normal a w) (hQp : ∀ c a w, ¬ Q (.panic c) a w) :
    ∀ (t : Ord) (lk : Bool) (n : Nat) (listed : Array Bool) (σ : ASt) (I : Imm) (own : Nat → Option Loc) (F : Fx) (a : Act) (w : World), okOrd ops B lk listed t = true → t.depth ≤ n → Based F0 F →
      (lk = true → F.lv = lvOf ns ∧ F.lk = L ∧ ∀ b, L b → F.w0.heap[b]? = W.heap[b]?) → (lk = false → F.open) → RI F I own σ a w → aord C ops.toList ns K t σ → Held C.P ops Q B (fun w => ∀ b, L b → w.heap[b]? = W.heap[b]?) n listed I a w := by
  -- one operation that is carried out in its turn
  have one : ∀ (t : Ord) (lk : Bool) (n : Nat) (listed : Array Bool) (σ : ASt) (I : Imm) (own : Nat → Option Loc) (F : Fx) (a : Act) (w : World) (i : Nat), mayOne ops B lk i = true → Based F0 F →
      (lk = true → F.lv = lvOf ns ∧ F.lk = L ∧ ∀ b, L b → F.w0.heap[b]? = W.heap[b]?) → (lk = false → F.open) → RI F I own σ a w → aoo C ops.toList σ (aord C ops.toList ns K t) ops.toList[i]? →
      (∀ (σ : ASt) (J : Imm) (own : Nat → Option Loc) (F : Fx) (a : Act) (w : World), Based F0 F → (lk = true → F.lv = lvOf ns ∧ F.lk = L ∧ ∀ b, L b → F.w0.heap[b]? = W.heap[b]?) → (lk = false → F.open) → RI F J own σ a w → aord C ops.toList ns K t σ →
        Held C.P ops Q B (fun w => ∀ b, L b → w.heap[b]? = W.heap[b]?) n (listed.setIfInBounds i true) J a w) →
      wpOp C.P ops Q i (fun a' w' => ∃ J, (Imm.le I J ∧ Imm.ok J w' ∧ (((∀ b, L b → w.heap[b]? = W.heap[b]?) → ∀ b, L b → w'.heap[b]? = W.heap[b]?) ∨ B.contains i = true)) ∧ Held C.P ops Q B (fun w => ∀ b, L b → w.heap[b]? = W.heap[b]?) n (listed.setIfInBounds i true) J a' w') a w := by
    intro t lk n listed σ I own F a w i hm hB hl1 hl2 h ha ih
    rw [Array.getElem?_toList] at ha
    cases ho : ops[i]? with
    | none => rw [ho] at ha; exact ha.elim
    | some o =>
      rw [ho] at ha
      have fin : ∀ {F1 : Fx} {Kn : Act → World → Prop}, F1.C = C → (∀ τ, OkLk F1 τ o) → RI F1 I own σ a w → (∀ a' w', Post F1 (aord C ops.toList ns K t) a' w' → Kn a' w') → wpOp C.P ops Q i Kn a w := by
        intro F1 Kn hC1 hlk1 h1 hn
        have hs := step_ok (Q := Q) hC1 hok (fun τ _ => hlk1 τ) h1 (show (stepR C ops.toList σ o).wp C (aord C ops.toList ns K t) from ha)
        unfold wpOp
        rw [ho]
        simp only
        split
        · rename_i hwd
          exact .inl (Oper.wp_mono hn (hs.1 hwd))
        · rename_i hwd
          exact hn _ _ (hs.2 (by simpa using hwd))
      cases lk with
      | true =>
        obtain ⟨e1, e2, e3⟩ := hl1 rfl
        obtain ⟨h1, hB1⟩ := h.rebase (lv := lvOf ns) (lk := L) (fun b hb => by rw [← e1]; exact (h.lk.stay b (by rw [e2]; exact hb)).2) (fun k hk0 cs b hk hb => by rw [← e2]; exact h.lk.all k (by rw [e1]; exact hk0) cs b hk hb)
        have hW : ∀ b, L b → w.heap[b]? = W.heap[b]? := fun b hb => ((h.lk.stay b (by rw [e2]; exact hb)).1).trans (e3 b hb)
        have hlo : lockedOk o.op = true := by simpa [mayOne, ho] using hm
        refine fin (F1 := F.at w I (lvOf ns) L) (by show F.C = C; rw [hB.cfg, hC0]) (fun τ => okLk_locked hlo (List.all_eq_true.1 hns o (by rw [← Array.getElem?_toList] at ho; exact List.mem_of_getElem? ho)) τ) h1 fun a' w' hp => ?_
        obtain ⟨J, own', σ', q1, q2⟩ := hp
        refine ⟨J, ⟨q1.base, q1.imm, .inl fun hW b hb => ((q1.lk.stay b hb).1).trans (hW b hb)⟩, ih σ' J own' _ a' w' (hB.trans hB1) (fun _ => ⟨rfl, rfl, hW⟩) (fun e => by cases e) q1 q2⟩
      | false =>
        obtain ⟨h1, hB1⟩ := h.rebase (lv := fun _ => false) (lk := fun _ => False) (fun _ hb => hb.elim) (fun k e => by cases e)
        refine fin (F1 := F.at w I (fun _ => false) (fun _ => False)) (by show F.C = C; rw [hB.cfg, hC0]) (fun τ => OkLk.of_open ⟨fun _ => rfl, fun _ hb => hb⟩ τ o) h1 fun a' w' hp => ?_
        obtain ⟨J, own', σ', q1, q2⟩ := hp
        exact ⟨J, ⟨q1.base, q1.imm, .inr hm⟩, ih σ' J own' _ a' w' (hB.trans hB1) (fun e => by cases e) (fun _ => ⟨fun _ => rfl, fun _ hb => hb⟩) q1 q2⟩
  intro t
  induction t with
  | fin =>
    intro lk n listed σ I own F a w ho hd hB hl1 hl2 h ha
    simp only [okOrd, List.isEmpty_iff] at ho
    exact Held.done ho (hK a w ⟨I, own, σ, h.back hB hF0, ha⟩)
  | quiet i t ih =>
    intro lk n listed σ I own F a w ho hd hB hl1 hl2 h ha
    simp only [okOrd, Bool.and_eq_true, Bool.or_eq_true] at ho
    obtain ⟨ho0, ho1, ho2, ho3, ho4⟩ := ho
    obtain ⟨n, rfl⟩ : ∃ m, n = m + 1 := ⟨n - 1, by simp only [Ord.depth] at hd; omega⟩
    cases lk with
    | false =>
      have hpu := ho0.resolve_left (by simp)
      simp only [aord] at ha
      rw [Array.getElem?_toList] at ha
      cases hoi : ops[i]? with
      | none => rw [hoi] at ha; exact ha.elim
      | some o =>
        rw [hoi] at ha
        obtain ⟨hq, hst⟩ := ha
        simp only [pureB, hoi] at hpu
        obtain ⟨h1, hB1⟩ := h.rebase (lv := fun _ => false) (lk := fun _ => False) (fun _ hb => hb.elim) (fun k e => by cases e)
        obtain ⟨v, k1, J, own', σ', k2, k3⟩ := pure_step (F := F.at w I (fun _ => false) (fun _ => False)) (by show F.C = C; rw [hB.cfg, hC0]) hok h1 hpu hq hst
        have hy : YieldsIf C.P ops (fun w2 => Imm.ok I w2 ∧ True) o v a := k1.imp (fun ⟨p, q⟩ => ⟨p, fun w2 hw2 => q w2 hw2.1⟩) id
        exact Held.first (S1 := fun _ => True) hoi (Region.noSelect_spec hsel) (fun c a w h => (hQp c _ w h).elim) (.inl fun _ => trivial) n listed I a w (Region.free_spec hoi ho2) (by simpa using ho1) hy h.imm trivial
          (Held.mono k2.base (ih false n _ σ' J own' _ _ w ho4 (by simp only [Ord.depth] at hd; omega) (hB.trans hB1) (fun e => by cases e) (fun _ => ⟨fun _ => rfl, fun _ hb => hb⟩) k2 k3))
    | true =>
    obtain ⟨e1, e2, e3⟩ := hl1 rfl
    simp only [aord] at ha
    rw [Array.getElem?_toList] at ha
    cases hoi : ops[i]? with
    | none => rw [hoi] at ha; exact ha.elim
    | some o =>
      rw [hoi] at ha
      obtain ⟨hq, hst⟩ := ha
      obtain ⟨h1, hB1⟩ := h.rebase (lv := lvOf ns) (lk := L) (fun b hb => by rw [← e1]; exact (h.lk.stay b (by rw [e2]; exact hb)).2) (fun k hk0 cs b hk hb => by rw [← e2]; exact h.lk.all k (by rw [e1]; exact hk0) cs b hk hb)
      have hW : ∀ b, L b → w.heap[b]? = W.heap[b]? := fun b hb => ((h.lk.stay b (by rw [e2]; exact hb)).1).trans (e3 b hb)
      have next : ∀ v, Post (F.at w I (lvOf ns) L) (aord C ops.toList ns K t) (a.put o.dst v) w → Held C.P ops Q B (fun w => ∀ b, L b → w.heap[b]? = W.heap[b]?) n (listed.setIfInBounds i true) I (a.put o.dst v) w := by
        rintro v ⟨J, own', σ', k2, k3⟩
        exact Held.mono k2.base (ih true n _ σ' J own' _ _ w ho4 (by simp only [Ord.depth] at hd; omega) (hB.trans hB1) (fun _ => ⟨rfl, rfl, hW⟩) (fun e => by cases e) k2 k3)
      cases hpu : pureOp o.op with
      | true =>
        obtain ⟨v, k1, k2⟩ := pure_step (by show F.C = C; rw [hB.cfg, hC0]) hok h1 hpu hq hst
        have hy : YieldsIf C.P ops (fun w2 => Imm.ok I w2 ∧ True) o v a := k1.imp (fun ⟨p, q⟩ => ⟨p, fun w2 hw2 => q w2 hw2.1⟩) id
        exact Held.first (S1 := fun _ => True) hoi (Region.noSelect_spec hsel) (fun c a w h => (hQp c _ w h).elim) (.inl fun _ => trivial) n listed I a w (Region.free_spec hoi ho2) (by simpa using ho1) hy h.imm trivial (next v k2)
      | false =>
      have ho3 : waitsAll ops B i = true := by
        rcases ho3 with e | e
        · simp only [pureB, hoi, hpu] at e; cases e
        · exact e
      obtain ⟨v, k1, k2⟩ := quiet_step (by show F.C = C; rw [hB.cfg, hC0]) hok h1 (.inr fun k hk => by show lvOf ns k = true; unfold lvOf; rw [hk]; rfl) hq hst
      have hy : YieldsIf C.P ops (fun w2 => Imm.ok I w2 ∧ ∀ b, L b → w2.heap[b]? = W.heap[b]?) o v a :=
        k1.imp (fun ⟨p, q⟩ => ⟨p, fun w2 hw2 => q w2 ⟨hw2.1, fun b hb => (hw2.2 b hb).trans (hW b hb).symm⟩⟩) id
      refine Held.first (S1 := fun w => ∀ b, L b → w.heap[b]? = W.heap[b]?) hoi (Region.noSelect_spec hsel) (fun c a w h => (hQp c _ w h).elim) (.inr ⟨fun _ => Iff.rfl, fun j oj hj hoj => ?_⟩) n listed I a w (Region.free_spec hoi ho2) (by simpa using ho1) hy h.imm hW (next v k2)
      simp only [waitsAll, List.all_eq_true] at ho3
      have := ho3 j (by simpa using hj)
      rw [hoj] at this
      simp only [Array.any_eq_true', Bool.and_eq_true, beq_iff_eq] at this
      obtain ⟨e, he, h2, h3⟩ := this
      exact ⟨e, he, h2, h3⟩
  | one i t ih =>
    intro lk n listed σ I own F a w ho hd hB hl1 hl2 h ha
    simp only [okOrd, Bool.and_eq_true, List.all_eq_true, beq_iff_eq] at ho
    obtain ⟨⟨ho0, ho1⟩, ho2, ho3⟩ := ho
    obtain ⟨n, rfl⟩ : ∃ m, n = m + 1 := ⟨n - 1, by simp only [Ord.depth] at hd; omega⟩
    have hop := one t lk n listed σ I own F a w i ho2 hB hl1 hl2 h ha fun σ' J own' F' a' w' q1 q2 q3 q4 q5 => ih lk n _ σ' J own' F' a' w' ho3 (by simp only [Ord.depth] at hd; omega) q1 q2 q3 q4 q5
    refine ⟨fun hr => ?_, fun j hj => by rw [ho1 j hj]; exact hop⟩
    rw [hr] at ho0; cases ho0
  | two i t j u iht ihu =>
    intro lk n listed σ I own F a w ho hd hB hl1 hl2 h ha
    simp only [okOrd, Bool.and_eq_true, List.all_eq_true, Bool.or_eq_true, beq_iff_eq] at ho
    obtain ⟨⟨ho0, ho1⟩, ho2, ho3, ho4, ho5⟩ := ho
    obtain ⟨n, rfl⟩ : ∃ m, n = m + 1 := ⟨n - 1, by simp only [Ord.depth] at hd; omega⟩
    simp only [Ord.depth] at hd
    have hop1 := one t lk n listed σ I own F a w i ho2 hB hl1 hl2 h ha.1 fun σ' J own' F' a' w' q1 q2 q3 q4 q5 => iht lk n _ σ' J own' F' a' w' ho4 (by omega) q1 q2 q3 q4 q5
    have hop2 := one u lk n listed σ I own F a w j ho3 hB hl1 hl2 h ha.2 fun σ' J own' F' a' w' q1 q2 q3 q4 q5 => ihu lk n _ σ' J own' F' a' w' ho5 (by omega) q1 q2 q3 q4 q5
    refine ⟨fun hr => (by rw [hr] at ho0; cases ho0), fun k hk => ?_⟩
    rcases ho1 k hk with rfl | rfl
    · exact hop1
    · exact hop2
  | three i t j u m v iht ihu ihv =>
    intro lk n listed σ I own F a w ho hd hB hl1 hl2 h ha
    simp only [okOrd, Bool.and_eq_true, List.all_eq_true, Bool.or_eq_true, beq_iff_eq] at ho
    obtain ⟨⟨ho0, ho1⟩, ho2, ho3, ho4, ho5, ho6, ho7⟩ := ho
    obtain ⟨n, rfl⟩ : ∃ m, n = m + 1 := ⟨n - 1, by simp only [Ord.depth] at hd; omega⟩
    simp only [Ord.depth] at hd
    have hop1 := one t lk n listed σ I own F a w i ho2 hB hl1 hl2 h ha.1 fun σ' J own' F' a' w' q1 q2 q3 q4 q5 => iht lk n _ σ' J own' F' a' w' ho5 (by omega) q1 q2 q3 q4 q5
    have hop2 := one u lk n listed σ I own F a w j ho3 hB hl1 hl2 h ha.2.1 fun σ' J own' F' a' w' q1 q2 q3 q4 q5 => ihu lk n _ σ' J own' F' a' w' ho6 (by omega) q1 q2 q3 q4 q5
    have hop3 := one v lk n listed σ I own F a w m ho4 hB hl1 hl2 h ha.2.2 fun σ' J own' F' a' w' q1 q2 q3 q4 q5 => ihv lk n _ σ' J own' F' a' w' ho7 (by omega) q1 q2 q3 q4 q5
    refine ⟨fun hr => (by rw [hr] at ho0; cases ho0), fun k hk => ?_⟩
    rcases ho1 k hk with (rfl | rfl) | rfl
    · exact hop1
    · exact hop2
    · exact hop3
  | lone i t ih =>
    intro lk n listed σ I own F a w ho hd hB hl1 hl2 h ha
    simp only [okOrd, Bool.and_eq_true, List.all_eq_true, beq_iff_eq] at ho
    obtain ⟨rfl, ⟨ho0, ho1⟩, ho3⟩ := ho
    obtain ⟨n, rfl⟩ : ∃ m, n = m + 1 := ⟨n - 1, by simp only [Ord.depth] at hd; omega⟩
    obtain ⟨e1, e2, e3⟩ := hl1 rfl
    simp only [aord] at ha
    rw [Array.getElem?_toList] at ha
    cases hoi : ops[i]? with
    | none => rw [hoi] at ha; exact ha.elim
    | some o =>
      rw [hoi] at ha
      simp only [aol, Bool.and_eq_true] at ha
      obtain ⟨⟨hg, hq⟩, hst⟩ := ha
      obtain ⟨h1, hB1⟩ := h.rebase (lv := lvOf ns) (lk := L) (fun b hb => by rw [← e1]; exact (h.lk.stay b (by rw [e2]; exact hb)).2) (fun k hk0 cs b hk hb => by rw [← e2]; exact h.lk.all k (by rw [e1]; exact hk0) cs b hk hb)
      have hW : ∀ b, L b → w.heap[b]? = W.heap[b]? := fun b hb => ((h.lk.stay b (by rw [e2]; exact hb)).1).trans (e3 b hb)
      obtain ⟨dst, op, ty, pos, after, g⟩ := o
      have hg : g = none := by cases g <;> first | rfl | cases hg
      subst hg
      cases op <;> try (simp [loneOp] at hq; done)
      rename_i T p x
      have hs := op_store (F := F.at w I (lvOf ns) L) (Q := Q) (pos := pos) (after := after) (g := none) hok h1 (fun k off e => by simp only [loneOp, e, eltAddr] at hq; show lvOf ns k = false; unfold lvOf; rw [hq]; rfl) (show (opR C σ dst ty (.store T p x)).wp C (aord C ops.toList ns K t) from hst)
      have hop : wpOp C.P ops Q i (fun a' w' => ∃ J, (Imm.le I J ∧ Imm.ok J w' ∧ (((∀ b, L b → w.heap[b]? = W.heap[b]?) → ∀ b, L b → w'.heap[b]? = W.heap[b]?) ∨ B.contains i = true)) ∧ Held C.P ops Q B (fun w => ∀ b, L b → w.heap[b]? = W.heap[b]?) n (listed.setIfInBounds i true) J a' w') a w := by
        unfold wpOp
        rw [hoi]
        simp only
        rw [if_pos (by simp [Region.wanted])]
        refine .inl (Oper.wp_mono (fun a' w' hp => ?_) hs)
        obtain ⟨J, own', σ', q1, q2⟩ := hp
        exact ⟨J, ⟨q1.base, q1.imm, .inl fun hW b hb => ((q1.lk.stay b hb).1).trans (hW b hb)⟩, ih true n _ σ' J own' _ a' w' ho3 (by simp only [Ord.depth] at hd; omega) (hB.trans hB1) (fun _ => ⟨rfl, rfl, hW⟩) (fun e => by cases e) q1 q2⟩
      refine ⟨fun hr => ?_, fun j hj => by rw [ho1 j hj]; exact hop⟩
      rw [hr] at ho0; cases ho0
  | unlock t ih =>
    intro lk n listed σ I own F a w ho hd hB hl1 hl2 h ha
    simp only [okOrd, Bool.and_eq_true] at ho
    exact ih false n listed σ I own F0 a w ho.2 hd (Based.refl F0) (fun e => by cases e) (fun _ => hF0) (h.back hB hF0) ha
end
end Go.Proofs.Ytjfnmlheehbojaa.VA
