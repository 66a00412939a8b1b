/- Addresses, parts, slices of slices. -/
import Derived.Test.YtjfnmlheehbojaaVaOps3
namespace Go.Proofs.Ytjfnmlheehbojaa.VA
section
variable {F : Fx} {I : Imm} {own : Nat → Option Loc} {σ : ASt} {a : Act} {w w' : World} {C : Cfg} {K : ASt → Prop} {Q : Exit → Act → World → Prop}

theorem isSome_look {α : Type} {l : List (Nat × α)} {k : Nat} (h : (look l k).isSome = true) : ∃ x, look l k = some x := Option.isSome_iff_exists.1 h

/-- The address of a part of what another address leads to. -/
theorem rv_shift {y : AV} {u : Value} (hu : RV F I own σ a w y u) (q : Nat) : (∃ k off cs, y = .var k off ∧ look σ.vars k = some cs) ∨ (∃ x i off sz es, y = .elt x i off ∧ σ.cont x = some (sz, es) ∧ ∀ sh sz es, x ≠ .own sh sz es) →
    ∃ b o, u = .pointer (some ⟨b, o, none⟩) ∧ RV F I own σ a w (match y with | .var k off => .var k (off + q) | .elt x i off => .elt x i (off + q) | y => y) (.pointer (some ⟨b, o + q, none⟩)) := by
  rintro (⟨k, off, cs, rfl, hk⟩ | ⟨x, i, off, sz, es, rfl, hc, hx⟩)
  · obtain ⟨b, hb, hv⟩ := hu cs hk
    refine ⟨b, off, hv, fun cs' hk' => ⟨b, hb, rfl⟩⟩
  · cases x with
    | own sh sz es => exact absurd rfl (hx _ _ _)
    | sl fr sz' es' =>
      obtain ⟨b, o, n, cap, h1, h2⟩ := hu
      exact ⟨b, o + i * sz' + off, h2, b, o, n, cap, h1, by rw [Nat.add_assoc _ off q]⟩
    | ref l =>
      simp only [ASt.cont] at hc
      cases hl : σ.at l with
      | none => rw [hl] at hc; cases hc
      | some y =>
        rw [hl] at hc
        cases y <;> simp only [AV.elemsO] at hc <;> try cases hc
        rename_i sh
        obtain ⟨g, n, cap, h1, h2⟩ := hu sh sz es hl
        refine ⟨g, i * sz + off, h2, fun sh' sz' es' hl' => ?_⟩
        rw [hl] at hl'
        cases hl'
        exact ⟨g, n, cap, h1, by rw [Nat.add_assoc]⟩
    | _ => simp [ASt.cont, AV.elemsOf] at hc

theorem op_fieldAddr (hC : F.C = C) (hok : CfgOk C) (h : RI F I own σ a w) {dst : Option Tmp} {T ty : TypeId} {f : Nat} {x : Operand} {pos : String} {after : Array Edge} {g : Option (Nat × Bool)}
    (hw : (opR C σ dst ty (.fieldAddr T x f)).wp C K) : Quiet F I C.P ⟨dst, .fieldAddr T x f, ty, pos, after, g⟩ a w (Post F K) := by
  have hx := rd_ok h C 0 x
  simp only [opR] at hw
  generalize σ.rd C 0 x = y at hx hw
  cases hq : (C.ti T).kind <;> rw [hq] at hw <;> simp only [structF] at hw <;> try (cases y <;> exact hw.elim)
  rename_i fs
  have hfit := (hok.fit T (by rw [hq]; rfl)).kind
  rw [hq] at hfit
  obtain ⟨A, hu, _, hA⟩ := hfit
  cases hf : fs[f]? with
  | none => rw [hf] at hw; cases y <;> exact hw.elim
  | some p =>
    obtain ⟨foff, fsz, ft⟩ := p
    rw [hf] at hw
    obtain ⟨fd, i, e1, e2, e3, e4, e5, e6⟩ := hA f foff fsz ft hf
    have run : ∀ {w : World} {b o}, a.eval x = .pointer (some ⟨b, o, none⟩) → (execOp a.eval ⟨dst, .fieldAddr T x f, ty, pos, after, g⟩).run C.P w = .ok (.value (.pointer (some ⟨b, o + foff, none⟩))) w := by
      intro w b o hv
      have hne : ¬ i.size = 0 := by omega
      simp [execOp, Instr.fieldAt, run_underlying hu, e1, hv, Instr.sureAddr, fieldPlace, sizeOf, typeInfo, e3, e4, hne, Addr.add_lit, e2]
    cases y <;> simp only [addrR] at hw <;> try exact hw.elim
    case var k off =>
      obtain ⟨h1, hw⟩ := chk_ok hw
      obtain ⟨cs, hk⟩ := isSome_look h1
      obtain ⟨b, o, hv, hr⟩ := rv_shift hx foff (.inl ⟨k, off, cs, rfl, hk⟩)
      exact by_q (fun w2 hl2 => run hv) (wr_rv hC h hw hr)
    case elt z i off =>
      obtain ⟨h1, hw⟩ := chk_ok hw
      obtain ⟨⟨sz, es⟩, hk⟩ := Option.isSome_iff_exists.1 h1
      obtain ⟨b, o, hv, hr⟩ := rv_shift hx foff (.inr ⟨z, i, off, sz, es, rfl, hk, fun sh sz es e => by subst e; exact hx.elim⟩)
      exact by_q (fun w2 hl2 => run hv) (wr_rv hC h hw hr)

theorem aggPart_ok {M : Nat → Prop} {off n : Nat} {x y : AV} {v : Value} (hx : AR M I x v) (hy : aggPart off n x = some y) : ∃ vs, v = .agg vs ∧ off + n ≤ vs.size ∧ AR M I y (.agg (vs.extract off (off + n))) := by
  cases x <;> simp only [aggPart] at hy <;> try cases hy
  rename_i cs
  by_cases hle : off + n ≤ cs.length
  case neg => rw [if_neg hle] at hy; cases hy
  rw [if_pos hle] at hy
  cases hy
  cases hx with
  | agg _ vs hl h1 hh =>
    refine ⟨vs, rfl, by omega, .agg _ _ (by simp; omega) (fun j v hj => ?_) fun j c v hj hv => ?_⟩
    · rw [Array.getElem?_extract] at hj
      split at hj
      · exact h1 _ v hj
      · cases hj
    · rw [Array.getElem?_extract] at hv
      split at hv
      · rename_i hjl
        have hjn : j < n := by omega
        rw [List.getElem?_take_of_lt hjn, List.getElem?_drop] at hj
        exact hh _ c v hj hv
      · cases hv

theorem run_part_agg {P : Program} {ti : TypeId → TI} {T : TypeId} (hfit : Fit P ti T) (hag : (ti T).kind.isAgg = true) (vs : Array Value) (off : Nat) : (part T vs off).run P w = .ok (.agg (vs.extract off (off + (ti T).size))) w := by
  have h1 := fit_isAgg hfit w
  rw [hag] at h1
  simp [part, h1, fit_sizeOf hfit w]
theorem run_part_one {P : Program} {ti : TypeId → TI} {T : TypeId} (hfit : Fit P ti T) (hag : (ti T).kind.isAgg = false) (vs : Array Value) (off : Nat) {v : Value} (hv : vs[off]? = some v) : (part T vs off).run P w = .ok v w := by
  have h1 := fit_isAgg hfit w
  rw [hag] at h1
  simp [part, h1, hv]

/-- A part of an aggregate. -/
theorem part_ok (hC : F.C = C) (hok : CfgOk C) (h : RI F I own σ a w) {d : Option Nat} {T : TypeId} (hkn : (C.ti T).kind.known = true) {cs : List AV} {vs : Array Value} (hx : AR F.mine I (.agg cs) (.agg vs)) {off : Nat}
    (hw : (if (C.ti T).kind.isAgg = true then wrImm C σ d (aggPart off (C.ti T).size (.agg cs)) else wrImm C σ d cs[off]?).wp C K) : ∃ v, (∀ w2 : World, (part T vs off).run C.P w2 = .ok v w2) ∧ Post F K (a.put d v) w := by
  have hfit := hok.fit T hkn
  cases hag : (C.ti T).kind.isAgg with
  | true =>
    rw [if_pos hag] at hw
    refine ⟨_, fun _ => run_part_agg hfit hag vs off, wrImm_ok hC h hw fun y hy => ?_⟩
    obtain ⟨vs', e, _, hr⟩ := aggPart_ok hx hy
    cases e
    exact hr
  | false =>
    rw [if_neg (by rw [hag]; simp)] at hw
    cases hc : cs[off]? with
    | none => rw [hc] at hw; exact hw.elim
    | some y =>
      rw [hc] at hw
      cases hx with
      | agg _ _ hl h1 hh =>
        have hol : off < vs.size := by rw [← hl]; exact (List.getElem?_eq_some_iff.1 hc).1
        have hv := Array.getElem?_eq_getElem hol
        exact ⟨_, fun _ => run_part_one hfit hag vs off hv, wrImm_ok hC h hw fun y' hy' => by cases hy'; exact hh off y _ hc hv⟩

theorem ar_agg {M : Nat → Prop} {cs : List AV} {v : Value} (h : AR M I (.agg cs) v) : ∃ vs, v = .agg vs := by cases h; exact ⟨_, rfl⟩

theorem op_field (hC : F.C = C) (hok : CfgOk C) (h : RI F I own σ a w) {dst : Option Tmp} {T ty : TypeId} {f : Nat} {x : Operand} {pos : String} {after : Array Edge} {g : Option (Nat × Bool)}
    (hw : (opR C σ dst ty (.field T x f)).wp C K) : Quiet F I C.P ⟨dst, .field T x f, ty, pos, after, g⟩ a w (Post F K) := by
  have hx := rd_ok h C T x
  simp only [opR] at hw
  generalize σ.rd C T x = y at hx hw
  cases hq : (C.ti T).kind <;> rw [hq] at hw <;> simp only [structF] at hw <;> try (cases y <;> exact hw.elim)
  rename_i fs
  have hfit := (hok.fit T (by rw [hq]; rfl)).kind
  rw [hq] at hfit
  obtain ⟨A, hu, _, hA⟩ := hfit
  cases hf : fs[f]? with
  | none => rw [hf] at hw; cases y <;> exact hw.elim
  | some p =>
    obtain ⟨foff, fsz, ft⟩ := p
    rw [hf] at hw
    obtain ⟨fd, i, e1, e2, e3, e4, e5, e6⟩ := hA f foff fsz ft hf
    cases y <;> simp only [fieldR] at hw <;> try exact hw.elim
    rename_i cs
    obtain ⟨hkn, hw⟩ := chk_ok hw
    have har := (rv_imm rfl).1 hx
    obtain ⟨vs, hvs⟩ := ar_agg har
    rw [hvs] at har
    obtain ⟨v, hr, hp⟩ := part_ok hC hok h hkn har hw
    refine by_q (v := v) (fun w2 hl2 => ?_) hp
    simp [execOp, Instr.field, run_underlying hu, e1, hvs, asAgg, e2, e3, hr]

theorem op_index (hC : F.C = C) (hok : CfgOk C) (h : RI F I own σ a w) {dst : Option Tmp} {T ty : TypeId} {x ix : Operand} {pos : String} {after : Array Edge} {g : Option (Nat × Bool)}
    (hw : (opR C σ dst ty (.index T x ix)).wp C K) : Quiet F I C.P ⟨dst, .index T x ix, ty, pos, after, g⟩ a w (Post F K) := by
  have hx := rd_ok h C T x
  have hi := rd_ok h C 0 ix
  simp only [opR] at hw
  generalize σ.rd C T x = X at hx hw
  generalize σ.rd C 0 ix = J at hi hw
  generalize hq : (C.ti T).kind = kd at hw
  unfold idxR at hw
  split at hw
  · rename_i n e esz cs k i
    have ei := ar_int ((rv_imm rfl).1 hi)
    have har := (rv_imm rfl).1 hx
    obtain ⟨vs, hvs⟩ := ar_agg har
    rw [hvs] at har
    obtain ⟨hin, hw⟩ := hw
    obtain ⟨hkn, hw⟩ := chk_ok hw
    have hfit := (hok.fit T (by rw [hq]; rfl)).kind
    rw [hq] at hfit
    obtain ⟨hu, ie, hie, hsz, _⟩ := hfit
    obtain ⟨v, hr, hp⟩ := part_ok hC hok h hkn har hw
    refine by_q (v := v) (fun w2 hl2 => ?_) hp
    simp [execOp, Instr.index, ei, asIntOf, run_underlying hu, hvs, hin, sizeOf, typeInfo, hie, hsz, hr]
  · rename_i s k i
    have ei := ar_int ((rv_imm rfl).1 hi)
    have es := ar_str ((rv_imm rfl).1 hx)
    obtain ⟨hin, hw⟩ := hw
    have hu := (hok.fit T (by rw [hq]; rfl)).kind
    rw [hq] at hu
    have hil : i.toNat < s.length := by omega
    have hg : (⟨s.toArray⟩ : ByteArray)[i.toNat]? = some s[i.toNat] := by
      have hlt : i.toNat < (⟨s.toArray⟩ : ByteArray).size := hil
      have : (⟨s.toArray⟩ : ByteArray)[i.toNat]? = some ((⟨s.toArray⟩ : ByteArray)[i.toNat]'hlt) := dif_pos hlt
      rw [this]; rfl
    refine by_q (v := .int .u8 (s[i.toNat].toNat : Int)) (fun w2 hl2 => ?_) (wrImm_ok hC h hw fun y hy => ?_)
    · simp [execOp, Instr.index, ei, asIntOf, run_underlying (show C.P.underlying T = some .string from hu), es, hin.1, hg]
    · rw [List.getElem?_eq_getElem hil] at hy
      simp only [Option.map_some, Option.some.injEq] at hy
      subst hy
      exact .int _ _
  · exact hw.elim

theorem op_indexAddr (hC : F.C = C) (hok : CfgOk C) (h : RI F I own σ a w) {dst : Option Tmp} {T ty : TypeId} {x ix : Operand} {pos : String} {after : Array Edge} {g : Option (Nat × Bool)}
    (hw : (opR C σ dst ty (.indexAddr T x ix)).wp C K) : Quiet F I C.P ⟨dst, .indexAddr T x ix, ty, pos, after, g⟩ a w (Post F K) := by
  have hx := rd_ok h C T x
  have hi := rd_ok h C 0 ix
  simp only [opR] at hw
  generalize σ.rd C T x = X at hx hw
  generalize σ.rd C 0 ix = J at hi hw
  generalize hq : (C.ti T).kind = kd at hw
  have arr : ∀ {n : Nat} {e : TypeId} {esz : Nat} {i : Int} {q : IntKind}, kd = .arr n e esz → a.eval ix = .int q i → (0 ≤ i ∧ i < n) → ∀ {w : World} {b o : Nat}, a.eval x = .pointer (some ⟨b, o, none⟩) →
      (execOp a.eval ⟨dst, .indexAddr T x ix, ty, pos, after, g⟩).run C.P w = .ok (.value (.pointer (some ⟨b, o + i.toNat * esz, none⟩))) w := by
    intro n e esz i q hk ei hin w b o hv
    subst hk
    have hfit := (hok.fit T (by rw [hq]; rfl)).kind
    rw [hq] at hfit
    obtain ⟨hu, ie, hie, hsz, _⟩ := hfit
    simp [execOp, Instr.indexAt, ei, asIntOf, run_underlying hu, hv, Instr.sureAddr, hin, sizeOf, typeInfo, hie, hsz, Addr.add_lit]
  unfold idxAddrR at hw
  split at hw
  · rename_i n e esz k off q i
    have ei := ar_int ((rv_imm rfl).1 hi)
    obtain ⟨h1, hin, hw⟩ := chk_ok hw
    obtain ⟨cs, hk⟩ := isSome_look h1
    obtain ⟨b, o, hv, hr⟩ := rv_shift hx (i.toNat * esz) (.inl ⟨k, off, cs, rfl, hk⟩)
    exact by_q (fun w2 hl2 => arr rfl ei hin hv) (wr_rv hC h hw hr)
  · rename_i n e esz z j off q i
    have ei := ar_int ((rv_imm rfl).1 hi)
    obtain ⟨h1, hin, hw⟩ := chk_ok hw
    obtain ⟨⟨sz, es⟩, hk⟩ := Option.isSome_iff_exists.1 h1
    obtain ⟨b, o, hv, hr⟩ := rv_shift hx (i.toNat * esz) (.inr ⟨z, j, off, sz, es, rfl, hk, fun sh sz es e => by subst e; exact hx.elim⟩)
    exact by_q (fun w2 hl2 => arr rfl ei hin hv) (wr_rv hC h hw hr)
  · rename_i e esz eb q i
    have ei := ar_int ((rv_imm rfl).1 hi)
    cases hc : σ.cont X with
    | none => rw [hc] at hw; exact hw.elim
    | some p =>
      obtain ⟨sz, es⟩ := p
      rw [hc] at hw
      simp only [idxSl] at hw
      have hchk := chk_ok hw
      clear hw
      obtain ⟨h1, hin, hw⟩ := hchk
      simp only [decide_eq_true_eq] at h1
      subst h1
      have hfit := (hok.fit T (by rw [hq]; rfl)).kind
      rw [hq] at hfit
      obtain ⟨hu, ie, z, hie, hsz, _⟩ := hfit
      obtain ⟨base, n, cap, hv, hH⟩ := cont_ok h hx hc
      have hil : i.toNat < es.length := by omega
      obtain ⟨b, o, rfl, _⟩ := hH.at_ i.toNat _ (List.getElem?_eq_getElem hil)
      have hin' : 0 ≤ i ∧ i < (n : Int) := by rw [hH.n_eq]; exact hin
      refine by_q (v := .pointer (some ⟨b, o + i.toNat * sz, none⟩)) (fun w2 hl2 => ?_) (wr_rv hC h hw ?_)
      · simp [execOp, Instr.indexAt, ei, asIntOf, run_underlying hu, hv, hin', sizeOf, typeInfo, hie, hsz, Addr.add_lit]
      · cases X with
        | sl fr sz' es' =>
          simp only [ASt.cont, AV.elemsOf, Option.some.injEq, Prod.mk.injEq] at hc
          obtain ⟨rfl, rfl⟩ := hc
          exact ⟨b, o, n, cap, by rw [← hv]; exact (rv_imm rfl).1 hx, by rw [Nat.add_zero]⟩
        | ref l =>
          intro sh sz' es' hl
          simp only [ASt.cont, hl, AV.elemsO, Option.some.injEq, Prod.mk.injEq] at hc
          obtain ⟨rfl, rfl⟩ := hc
          have hcv := hx sh _ _ hl
          obtain ⟨u, hu', hr⟩ := h.slots l _ hl
          rw [hcv] at hu'
          cases hu'
          rcases hr with ⟨e, _⟩ | ⟨g', cap', e, _, _⟩
          · rw [hv] at e; cases e
          · rw [hv] at e
            cases e
            exact ⟨b, _, _, by rw [hcv, hv], by rw [Nat.zero_add, Nat.add_zero]⟩
        | own sh sz' es' =>
          obtain ⟨_, rfl, _⟩ := hx
          simp only [ASt.cont, AV.elemsOf, Option.some.injEq, Prod.mk.injEq] at hc
          rw [← hc.2] at hil
          simp at hil
        | _ => simp [ASt.cont, AV.elemsOf] at hc
  · exact hw.elim

end
end Go.Proofs.Ytjfnmlheehbojaa.VA
