/- The abstract machine is sound: operations, regions, code. -/
import Derived.Test.YtjfnmlheehbojaaVaCalls
namespace Go.Proofs.Ytjfnmlheehbojaa.VA
section
variable {F : Fx} {I : Imm} {own : Nat → Option Loc} {σ : ASt} {a : Act} {w w' : World} {C : Cfg} {K : ASt → Prop} {Q : Exit → Act → World → Prop}

/-- What an operation may do while variables are locked. -/
def OkLk (F : Fx) (σ : ASt) (o : Oper) : Prop :=
  match o.op with
  | .alloc _ | .box _ _ => ∀ d, o.dst = some d → F.lv d = false
  | .store _ p _ => ∀ k off, σ.rd F.C 0 p = .var k off → F.lv k = false
  | _ => True
theorem OkLk.of_open {F : Fx} (h : F.open) (σ : ASt) (o : Oper) : OkLk F σ o := by
  unfold OkLk
  split <;> first | exact fun d _ => h.1 d | exact fun k _ _ => h.1 k | trivial

theorem op_ok (hC : F.C = C) (hok : CfgOk C) {o : Oper} (hlk : OkLk F σ o) (h : RI F I own σ a w) (hw : (opR C σ o.dst o.type o.op).wp C K) : o.wp C.P a w (Post F K) Q := by
  obtain ⟨dst, op, ty, pos, after, g⟩ := o
  simp only at hw
  simp only [OkLk] at hlk
  cases op with
  | move x => exact quiet_wp h (op_move hC h hw)
  | assign x => exact quiet_wp h (op_assign hC h hw)
  | pick c x y => exact quiet_wp h (op_pick hC h hw)
  | alloc T => exact op_alloc hC hok h hlk hw
  | box T x => exact op_box hC h hlk hw
  | build T parts => exact op_build hC hok h hw
  | buildSlice T n parts => exact op_buildSlice hC hok h hw
  | load T x => exact op_load hC hok h hw
  | store T p x => exact op_store hok h (by rw [← hC]; exact hlk) hw
  | binOp op T x y T2 => exact quiet_wp h (op_bin hC hok h hw)
  | unOp op T x => exact quiet_wp h (op_un hC h hw)
  | convert S T x => exact op_convert hC hok h hw
  | makeFunc fn first captured =>
    cases fn <;> simp only [opR] at hw <;> try exact hw.elim
    exact quiet_wp h (op_makeFunc hC h hw)
  | makeSlice T l c => exact op_makeSlice hC hok h hw
  | slice T x lo hi mx =>
    cases mx with
    | none => exact quiet_wp h (op_slice hC hok h hw)
    | some m => exact hw.elim
  | fieldAddr T x f => exact quiet_wp h (op_fieldAddr hC hok h hw)
  | field T x f => exact quiet_wp h (op_field hC hok h hw)
  | indexAddr T x ix => exact quiet_wp h (op_indexAddr hC hok h hw)
  | index T x ix => exact quiet_wp h (op_index hC hok h hw)
  | extract x i =>
    cases x <;> simp only [opR] at hw <;> try exact hw.elim
    exact quiet_wp h (op_extract hC h hw)
  | call c => exact op_call hC hok h hw
  | _ => exact hw.elim

/-- A place that bears just what it bears. -/
theorem RI.again (h : RI F I own σ a w) {t : Nat} {x : AV} (hx : look σ.tmps t = some x) : RI F I own { σ with tmps := ins t x σ.tmps } a w := by
  refine h.weaken (fun l y hy => ⟨y, ?_, .inl rfl⟩) fun k cs hk => ⟨cs, hk, rfl⟩
  cases l with
  | tmp j =>
    simp only [ASt.at, look_ins] at hy ⊢
    by_cases e : j = t
    · subst e
      simp only [if_true] at hy
      rw [hx]; exact hy
    · simp only [e, if_false] at hy; exact hy
  | comp j i =>
    simp only [ASt.at, look_ins] at hy ⊢
    by_cases e : j = t
    · subst e
      simp only [if_true] at hy
      rw [hx]; exact hy
    · simp only [e, if_false] at hy; exact hy
  | _ => exact hy

theorem rd_again {t : Nat} {x : AV} (hx : look σ.tmps t = some x) (T : TypeId) (y : Operand) : ASt.rd C { σ with tmps := ins t x σ.tmps } T y = σ.rd C T y := by
  cases y <;> try rfl
  rename_i i
  simp only [ASt.rd, look_ins]
  by_cases e : i = t
  · subst e; rw [if_pos rfl, hx]
  · rw [if_neg e]
def yieldOf : Value → Option Bool
  | .bool b => some b
  | _ => none
theorem yielded_eq {ops : Array Oper} {j t : Nat} {v : Value} (ht : (ops[j]?).bind (·.dst) = some t) (hv : a.tmps[t]? = some v) : yielded ops a.tmps j = yieldOf v := by
  unfold yielded yieldOf
  have e : ((ops[j]?).bind (·.dst)).bind (a.tmps[·]?) = some v := by rw [ht]; exact hv
  rw [e]
  cases v <;> rfl

theorem step_ok (hC : F.C = C) (hok : CfgOk C) {ops : Array Oper} {o : Oper} (hlk : ∀ τ : ASt, (∀ T y, τ.rd C T y = σ.rd C T y) → OkLk F τ o) (h : RI F I own σ a w) (hw : (stepR C ops.toList σ o).wp C K) :
    (Region.wanted o (yielded ops a.tmps) = true → o.wp C.P a w (Post F K) Q) ∧ (Region.wanted o (yielded ops a.tmps) = false → Post F K (a.put o.dst undef) w) := by
  unfold stepR at hw
  cases hg : o.guard with
  | none =>
    rw [hg] at hw
    refine ⟨fun _ => op_ok hC hok (hlk σ fun _ _ => rfl) h hw, fun e => ?_⟩
    simp [Region.wanted, hg] at e
  | some p =>
    obtain ⟨j, want⟩ := p
    rw [hg] at hw
    simp only at hw
    rw [Array.getElem?_toList] at hw
    have hwd : Region.wanted o (yielded ops a.tmps) = (yielded ops a.tmps j == some want) := by simp [Region.wanted, hg]
    rw [hwd]
    cases ht : (ops[j]?).bind (·.dst) with
    | none => rw [ht] at hw; exact hw.elim
    | some t =>
      rw [ht] at hw
      simp only [grdT] at hw
      cases hl : look σ.tmps t with
      | none => rw [hl] at hw; exact hw.elim
      | some y =>
        rw [hl] at hw
        obtain ⟨v, hv, hr⟩ := h.slots (.tmp t) y hl
        simp only [conc] at hv
        rw [yielded_eq ht hv]
        cases y <;> simp only [grdO] at hw <;> try exact hw.elim
        case undef =>
          have : v = undef := hr
          subst this
          exact ⟨fun e => by simp [yieldOf, undef] at e, fun _ => wr_ok hC h hw (fun _ _ _ e => by cases e) rfl⟩
        case bool b =>
          have e := ar_bool ((srep_imm rfl).1 hr)
          subst e
          simp only [yieldOf]
          obtain ⟨h1, h2⟩ := hw
          refine ⟨fun e => ?_, fun e => ?_⟩
          · obtain rfl : b = want := by simpa using e
            exact op_ok hC hok (hlk _ (rd_again hl)) (h.again hl) (h1 (by simp))
          · have hne : b = !want := by cases b <;> cases want <;> simp_all
            have hl' := hl
            rw [hne] at hl'
            exact wr_ok hC (h.again hl') (h2 e) (fun _ _ _ e => by cases e) rfl

theorem aops_ok (hC : F.C = C) (hok : CfgOk C) (hlk : F.open) {ops : Array Oper} {Kf : ASt → Prop} (hQ : ∀ a w, Post F Kf a w → Q .normal a w) : ∀ (r : List Oper) (σ : ASt) (I : Imm) (own : Nat → Option Loc) (a : Act) (w : World), RI F I own σ a w →
    aops C ops.toList Kf r σ → wpList C.P ops Q r a w
  | [], σ, I, own, a, w, h, hw => hQ a w ⟨I, own, σ, h, hw⟩
  | o :: r, σ, I, own, a, w, h, hw => by
    have hs := step_ok (Q := Q) hC hok (fun τ _ => OkLk.of_open hlk τ o) h (show (stepR C ops.toList σ o).wp C (aops C ops.toList Kf r) from hw)
    have next : ∀ a w, Post F (aops C ops.toList Kf r) a w → wpList C.P ops Q r a w := fun a w ⟨J, own', τ, h1, h2⟩ => aops_ok hC hok hlk hQ r τ J own' a w h1 h2
    unfold wpList
    split
    · rename_i hwd
      exact .inl (Oper.wp_mono next (hs.1 hwd))
    · rename_i hwd
      exact next _ _ (hs.2 (by simpa using hwd))

end
end Go.Proofs.Ytjfnmlheehbojaa.VA
