/- What the operands of an operation are in memory. -/
import Derived.Test.YtjfnmlheehbojaaVaState4
namespace Go.Proofs.Ytjfnmlheehbojaa.VA

def zeroIs : AV → Value → Prop
  | .int k n, v => v = .int k n
  | .bool b, v => v = .bool b
  | .str s, v => v = .string ⟨s.toArray⟩
  | .own _ _ es, v => es = [] ∧ v = .slice none 0 0
  | .nilf, v => v = .nilFunc
  | _, _ => False

def FitK (P : Program) (T : TypeId) : TK → Prop
  | .int k => P.underlying T = some (.int k)
  | .bool => P.underlying T = some .bool
  | .str => P.underlying T = some .string
  | .func => ∃ x y z, P.underlying T = some (.func x y z)
  | .slice e esz eb => P.underlying T = some (.slice e) ∧ ∃ i z, P.info? e = some i ∧ i.size = esz ∧ i.bytes = eb ∧ 0 < eb ∧ i.zero = some z ∧ z.cells.size = esz ∧ 0 < esz
  | .arr n e esz => P.underlying T = some (.array n e) ∧ ∃ i, P.info? e = some i ∧ i.size = esz ∧ 0 < esz
  | .struct fs => ∃ A, P.underlying T = some (.struct A) ∧ A.size = fs.length ∧ ∀ (j off sz : Nat) ft, fs[j]? = some (off, sz, ft) → ∃ f i, A[j]? = some f ∧ f.offset = off ∧ f.type = ft ∧ P.info? ft = some i ∧ i.size = sz ∧ 0 < sz
  | .other => False
structure Fit (P : Program) (ti : TypeId → TI) (T : TypeId) : Prop where
  kind : FitK P T (ti T).kind
  info : ∃ i z, P.info? T = some i ∧ i.size = (ti T).size ∧ i.zero = some z ∧ z.cells.size = (ti T).size ∧ (ti T).zero.length = (ti T).size ∧
    (∀ (j : Nat) x v, (ti T).zero[j]? = some x → z.cells[j]? = some v → zeroIs x v) ∧ ((ti T).kind.isAgg = true → ∃ cs, z = .agg cs) ∧ ((ti T).kind.isAgg = false → (ti T).size = 1 ∧ z.oneCell' = true)
structure CfgOk (C : Cfg) : Prop where
  mixed : C.P.follows .mixedOrders = true
  fit : ∀ T, (C.ti T).kind.known = true → Fit C.P C.ti T

section
variable {F : Fx} {I : Imm} {own : Nat → Option Loc} {σ : ASt} {a : Act} {w w' : World}

theorem fit_isAgg {P : Program} {ti : TypeId → TI} {T : TypeId} (h : Fit P ti T) (w : World) : (isAgg T).run P w = .ok (ti T).kind.isAgg w := by
  have hk := h.kind
  unfold isAgg
  cases hq : (ti T).kind with
  | int k => rw [hq] at hk; simp [run_underlying (show P.underlying T = _ from hk), TK.isAgg]
  | bool => rw [hq] at hk; simp [run_underlying (show P.underlying T = _ from hk), TK.isAgg]
  | str => rw [hq] at hk; simp [run_underlying (show P.underlying T = _ from hk), TK.isAgg]
  | slice e esz eb => rw [hq] at hk; simp [run_underlying hk.1, TK.isAgg]
  | arr n e esz => rw [hq] at hk; simp [run_underlying hk.1, TK.isAgg]
  | struct fs => rw [hq] at hk; obtain ⟨A, hk, _⟩ := hk; simp [run_underlying hk, TK.isAgg]
  | func => rw [hq] at hk; obtain ⟨x, y, z, hk⟩ := hk; simp [run_underlying hk, TK.isAgg]
  | other => rw [hq] at hk; exact hk.elim
theorem fit_sizeOf {P : Program} {ti : TypeId → TI} {T : TypeId} (h : Fit P ti T) (w : World) : (sizeOf T).run P w = .ok (ti T).size w := by
  obtain ⟨i, z, h1, h2, _⟩ := h.info
  simp [sizeOf, typeInfo, h1, h2]

/-- What is read of an operand. -/
def RV (F : Fx) (I : Imm) (own : Nat → Option Loc) (σ : ASt) (a : Act) (w : World) : AV → Value → Prop
  | .own sh _ es, v => sh = false ∧ es = [] ∧ v = .slice none 0 0
  | .tup _, _ => False
  | x, v => SRep F I own σ a w (.box 0) x v

theorem srep_any {l l' : Loc} {x : AV} {v : Value} (hx : ∀ sh sz es, x ≠ .own sh sz es) (h : SRep F I own σ a w l x v) : SRep F I own σ a w l' x v := by
  cases x with
  | own sh sz es => exact absurd rfl (hx _ _ _)
  | elt y i off => cases y <;> exact h
  | _ => exact h
theorem rv_srep {l : Loc} {x : AV} {v : Value} (hx : ∀ sh sz es, x ≠ .own sh sz es) (h : RV F I own σ a w x v) : SRep F I own σ a w l x v := by
  cases x with
  | own sh sz es => exact absurd rfl (hx _ _ _)
  | tup vs => exact h.elim
  | elt y i off => cases y <;> exact h
  | _ => exact h
theorem srep_rv {l : Loc} {x : AV} {v : Value} (hx : ∀ sh sz es, x ≠ .own sh sz es) (hy : ∀ vs, x ≠ .tup vs) (h : SRep F I own σ a w l x v) : RV F I own σ a w x v := by
  cases x with
  | own sh sz es => exact absurd rfl (hx _ _ _)
  | tup vs => exact absurd rfl (hy _)
  | elt y i off => cases y <;> exact h
  | _ => exact h
theorem rv_imm {x : AV} {v : Value} (hx : x.isImm = true) : RV F I own σ a w x v ↔ AR F.mine I x v := by
  cases x <;> first | exact Iff.rfl | (simp [AV.isImm] at hx)

theorem constC_ok {M : Nat → Prop} {v : Value} {x : AV} (e : AV.constC v = some x) : AR M I x v ∧ v.oneCell' = true := by
  unfold AV.constC at e
  split at e <;> cases e
  · exact ⟨.bool _, rfl⟩
  · exact ⟨.int _ _, rfl⟩
  · rename_i s
    have : AR M I (.str s.data.toList) (.string ⟨s.data.toList.toArray⟩) := .str _
    rw [show (⟨s.data.toList.toArray⟩ : ByteArray) = s by cases s; simp] at this
    exact ⟨this, rfl⟩
  · exact ⟨.nilf, rfl⟩
  · exact ⟨.ext nilP I _ (fun _ _ _ e => e) rfl rfl, rfl⟩
theorem constCs_ok {M : Nat → Prop} : ∀ {vs : List Value} {xs : List AV}, AV.constCs vs = some xs → xs.length = vs.length ∧ (∀ (j : Nat) v, vs[j]? = some v → v.oneCell' = true) ∧ ∀ (j : Nat) c v, xs[j]? = some c → vs[j]? = some v → AR M I c v
  | [], xs, e => by
    rw [AV.constCs] at e
    cases e
    exact ⟨rfl, fun j v h => (by cases h), fun j c v h => (by cases h)⟩
  | v :: vs, xs, e => by
    rw [AV.constCs] at e
    cases h1 : AV.constC v with
    | none => rw [h1] at e; cases h2 : AV.constCs vs <;> rw [h2] at e <;> cases e
    | some x =>
      cases h2 : AV.constCs vs with
      | none => rw [h1, h2] at e; cases e
      | some ys =>
        rw [h1, h2] at e
        cases e
        obtain ⟨l1, l2, l3⟩ := constCs_ok (M := M) h2
        obtain ⟨c1, c2⟩ := constC_ok (M := M) (I := I) h1
        refine ⟨by simp [l1], fun j u hu => ?_, fun j c u hc hu => ?_⟩
        · cases j with
          | zero => cases hu; exact c2
          | succ j => exact l2 j u hu
        · cases j with
          | zero => cases hc; cases hu; exact c1
          | succ j => exact l3 j c u hc hu
theorem rd_ok (h : RI F I own σ a w) (C : Cfg) (T : TypeId) (x : Operand) : RV F I own σ a w (σ.rd C T x) (a.eval x) := by
  cases x with
  | tmp i =>
    simp only [ASt.rd]
    cases hl : look σ.tmps i with
    | none => exact trivial
    | some y =>
      obtain ⟨v, hv, hr⟩ := h.slots (.tmp i) y hl
      have he : a.eval (.tmp i) = v := by
        simp only [conc] at hv
        simp only [Act.eval, Array.getD_eq_getD_getElem?, hv, Option.getD_some]
      rw [he]
      cases y with
      | own sh sz es =>
        intro sh' sz' es' _
        exact hv
      | tup vs => exact trivial
      | _ => exact srep_rv (fun _ _ _ e => by cases e) (fun _ e => by cases e) hr
  | const v =>
    simp only [ASt.rd, Act.eval]
    unfold AV.const
    split
    · exact .bool _
    · exact .int _ _
    · rename_i s
      have : AR F.mine I (.str s.data.toList) (.string ⟨s.data.toList.toArray⟩) := .str _
      rw [show (⟨s.data.toList.toArray⟩ : ByteArray) = s by cases s; simp] at this
      exact this
    · exact .nilf
    · unfold AV.nilOf
      split
      · exact ⟨rfl, rfl, rfl⟩
      · exact trivial
    · rename_i vs
      cases e : AV.constCs vs.toList with
      | none => exact trivial
      | some cs =>
        obtain ⟨l1, l2, l3⟩ := constCs_ok (M := F.mine) (I := I) e
        exact .agg cs vs (by rw [l1]; simp) (fun j v hv => l2 j v (by simpa using hv)) fun j c v hc hv => l3 j c v hc (by simpa using hv)
    · exact trivial
  | func f => exact .fn f
  | global g => exact trivial

/-- A value taken as one that never changes any more. -/
theorem imm_okMore (h : RI F I own σ a w) {x y : AV} {v : Value} {τ : ASt} (hx : RV F I own σ a w x v) (he : σ.imm x = some (y, τ)) : ∃ J, Imm.le I J ∧ RI F J own τ a w ∧ AR F.mine J y v ∧ ∀ b, Free σ own b → Free τ own b ∧ ∀ o, J b o = I b o := by
  have him : ∀ {x : AV}, RV F I own σ a w x v → x.isImm = true → (if x.isImm = true then some (x, σ) else none) = some (y, τ) → ∃ J, Imm.le I J ∧ RI F J own τ a w ∧ AR F.mine J y v ∧ ∀ b, Free σ own b → Free τ own b ∧ ∀ o, J b o = I b o := by
    intro x hx hi he
    rw [if_pos hi] at he
    cases he
    exact ⟨I, Imm.leRefl I, h, (rv_imm hi).1 hx, fun b hb => ⟨hb, fun _ => rfl⟩⟩
  cases x with
  | own sh sz es =>
    obtain ⟨rfl, rfl, rfl⟩ := hx
    simp only [ASt.imm, Option.some.injEq, Prod.mk.injEq] at he
    obtain ⟨rfl, rfl⟩ := he
    exact ⟨I, Imm.leRefl I, h, .slnil true sz none 0, fun b hb => ⟨hb, fun _ => rfl⟩⟩
  | ref l =>
    simp only [ASt.imm] at he
    cases hl : σ.at l with
    | none => rw [hl] at he; cases he
    | some q =>
      rw [hl] at he
      cases q <;> simp only [ASt.immRef] at he <;> try cases he
      rename_i sh sz es
      by_cases hp : l.plain = true
      · rw [if_pos hp] at he
        simp only [Option.some.injEq, Prod.mk.injEq] at he
        obtain ⟨rfl, rfl⟩ := he
        obtain ⟨J, u, h1, h2, h3, h4, h5⟩ := h.markMore hp hl
        have hv : conc a w l = some v := hx sh sz es hl
        rw [h1] at hv
        cases hv
        refine ⟨J, h2, h3, h4, fun b hb => ⟨fun l' hl' => ⟨fun sh' sz' es' he => ?_, fun k e => ?_⟩, h5 b fun e => (hb l e).1 _ _ _ hl⟩⟩
        · rw [at_turn (sh' := true) (sz' := sz) (es' := es) hp hl l'] at he
          by_cases e : l' = l
          · subst e; exact (hb l' hl').1 _ _ _ hl
          · rw [if_neg e] at he; exact (hb l' hl').1 _ _ _ he
        · exact (hb l' hl').2 k e
      · rw [if_neg hp] at he; cases he
  | bot => simp [ASt.imm, AV.isImm] at he
  | undef => simp [ASt.imm, AV.isImm] at he
  | tup vs => exact hx.elim
  | var k off => simp [ASt.imm, AV.isImm] at he
  | elt x i off => simp [ASt.imm, AV.isImm] at he
  | bool => exact him hx rfl he
  | int => exact him hx rfl he
  | str => exact him hx rfl he
  | fn => exact him hx rfl he
  | nilf => exact him hx rfl he
  | agg => exact him hx rfl he
  | sl => exact him hx rfl he
  | ext => exact him hx rfl he

theorem imm_ok (h : RI F I own σ a w) {x y : AV} {v : Value} {τ : ASt} (hx : RV F I own σ a w x v) (he : σ.imm x = some (y, τ)) : ∃ J, Imm.le I J ∧ RI F J own τ a w ∧ AR F.mine J y v := by
  obtain ⟨J, h1, h2, h3, _⟩ := imm_okMore h hx he
  exact ⟨J, h1, h2, h3⟩

/-- The elements of a slice in memory. -/
structure Holds (F : Fx) (I : Imm) (w : World) (sz : Nat) (es : List AV) (base : Option Addr) (n cap : Nat) : Prop where
  n_eq : n = es.length
  le : n ≤ cap
  at_ : ∀ (i : Nat) e, es[i]? = some e → ∃ b o, base = some ⟨b, o, none⟩ ∧ Lies F.mine I sz es fun q => w.cell? ⟨b, o + q, none⟩

theorem ar_holds {M : Nat → Prop} (hI : Imm.ok I w) {fr : Bool} {sz : Nat} {es : List AV} {v : Value} (h : AR M I (.sl fr sz es) v) :
    ∃ base n cap, v = .slice base n cap ∧ n = es.length ∧ n ≤ cap ∧ ∀ (i : Nat) e, es[i]? = some e → ∃ b o, base = some ⟨b, o, none⟩ ∧ Lies M I sz es fun q => w.cell? ⟨b, o + q, none⟩ := by
  cases h with
  | slnil => exact ⟨_, 0, _, rfl, rfl, Nat.zero_le _, fun i e he => by simp at he⟩
  | sl _ _ _ b o n cap hn hc vs hv hz hc' =>
    refine ⟨_, n, cap, rfl, hn, hc, fun _ _ _ => ⟨b, o, rfl, fun i e he => ?_⟩⟩
    have hi := (List.getElem?_eq_some_iff.1 he).1
    refine ⟨vs i, hv i e he, hz i hi, fun j c hj => ?_⟩
    have := hI _ _ _ (hc' i j c hi hj)
    rw [Nat.add_assoc] at this
    exact this

theorem cont_ok (h : RI F I own σ a w) {x : AV} {v : Value} {sz : Nat} {es : List AV} (hx : RV F I own σ a w x v) (he : σ.cont x = some (sz, es)) : ∃ base n cap, v = .slice base n cap ∧ Holds F I w sz es base n cap := by
  cases x with
  | sl fr sz' es' =>
    simp only [ASt.cont, AV.elemsOf, Option.some.injEq, Prod.mk.injEq] at he
    obtain ⟨rfl, rfl⟩ := he
    obtain ⟨base, n, cap, h1, h2, h3, h4⟩ := ar_holds h.imm ((rv_imm rfl).1 hx)
    exact ⟨base, n, cap, h1, h2, h3, h4⟩
  | own sh sz' es' =>
    obtain ⟨rfl, rfl, rfl⟩ := hx
    simp only [ASt.cont, AV.elemsOf, Option.some.injEq, Prod.mk.injEq] at he
    obtain ⟨rfl, rfl⟩ := he
    exact ⟨none, 0, 0, rfl, rfl, Nat.le_refl _, fun i e he => by simp at he⟩
  | ref l =>
    simp only [ASt.cont] at he
    cases hl : σ.at l with
    | none => rw [hl] at he; cases he
    | some q =>
      rw [hl] at he
      cases q <;> simp only [AV.elemsO] at he <;> try cases he
      rename_i sh
      have hv : conc a w l = some v := hx sh sz es hl
      obtain ⟨u, hu, hr⟩ := h.slots l _ hl
      rw [hv] at hu
      cases hu
      rcases hr with ⟨rfl, rfl⟩ | ⟨g, cap, rfl, _, hrow⟩
      · exact ⟨none, 0, 0, rfl, rfl, Nat.le_refl _, fun i e he => by simp at he⟩
      · refine ⟨_, _, cap, rfl, rfl, hrow.le, fun _ _ _ => ⟨g, 0, rfl, ?_⟩⟩
        have := hrow.lies
        simpa only [Nat.zero_add] using this
  | _ => simp [ASt.cont, AV.elemsOf] at he

/-- Nothing is locked. -/
def Fx.open (F : Fx) : Prop := (∀ k, F.lv k = false) ∧ ∀ b, ¬ F.lk b

/-- What is owed behind an operation. -/
def Post (F : Fx) (K : ASt → Prop) (a : Act) (w : World) : Prop := ∃ I own σ, RI F I own σ a w ∧ K σ

theorem chk_ok {C : Cfg} {K : ASt → Prop} {b : Bool} {r : R} (h : (R.chk b r).wp C K) : b = true ∧ r.wp C K := by
  unfold R.chk at h
  split at h
  · rename_i hb; exact ⟨hb, h⟩
  · exact h.elim

/-- A value goes to its temporary. -/
theorem wr_ok {C : Cfg} (hC : F.C = C) {K : ASt → Prop} (h : RI F I own σ a w) {d : Option Nat} {x : AV} {v : Value} (hw : (σ.wr C d x).wp C K) (hn : ∀ sh sz es, x ≠ .own sh sz es) (hx : RV F I own σ a w x v) : Post F K (a.put d v) w := by
  cases d with
  | none => exact ⟨I, own, σ, h, hw⟩
  | some t =>
    obtain ⟨h1, h2⟩ := chk_ok hw
    simp only [Bool.and_eq_true, Option.isNone_iff_eq_none] at h1
    have ht : F.C.may t = true := by rw [hC]; exact h1.1
    have key : (∀ vs, x ≠ .tup vs) → K (σ.put t x) → Post F K (a.put (some t) v) w := fun hy hk => ⟨I, own, _, h.put ht h1.2 hn hy (rv_srep hn hx), hk⟩
    cases x with
    | own sh sz es => exact absurd rfl (hn _ _ _)
    | tup vs => exact hx.elim
    | _ => exact key (fun _ e => by cases e) h2
theorem wr_own {C : Cfg} (hC : F.C = C) {K : ASt → Prop} (h : RI F I own σ a w) {d : Option Nat} {sh : Bool} {sz : Nat} {es : List AV} {v : Value} (hw : (σ.wr C d (.own sh sz es)).wp C K) (hh : Hand F I own σ w sh sz es v) : Post F K (a.put d v) w := by
  cases d with
  | none => exact ⟨I, own, σ, h, hw⟩
  | some t =>
    obtain ⟨h1, h2⟩ := chk_ok hw
    simp only [Bool.and_eq_true, Option.isNone_iff_eq_none] at h1
    have ht : F.C.may t = true := by rw [hC]; exact h1.1
    exact ⟨I, _, _, h.putOwn ht h1.2 hh, h2⟩
/-- An operand's value goes to a temporary. -/
theorem wr_rv {C : Cfg} (hC : F.C = C) {K : ASt → Prop} (h : RI F I own σ a w) {d : Option Nat} {x : AV} {v : Value} (hw : (σ.wr C d x).wp C K) (hx : RV F I own σ a w x v) : Post F K (a.put d v) w := by
  by_cases hn : ∃ sh sz es, x = .own sh sz es
  · obtain ⟨sh, sz, es, rfl⟩ := hn
    obtain ⟨rfl, rfl, rfl⟩ := hx
    exact wr_own hC h hw (.inl ⟨rfl, rfl⟩)
  · exact wr_ok hC h hw (fun sh sz es e => hn ⟨sh, sz, es, e⟩) hx

end
end Go.Proofs.Ytjfnmlheehbojaa.VA
