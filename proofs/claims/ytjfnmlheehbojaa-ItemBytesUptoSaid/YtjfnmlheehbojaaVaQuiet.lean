/- Operations that yield their value in every later world: of a load, of a conversion. -/
import Derived.Test.YtjfnmlheehbojaaVaCode
namespace Go.Proofs.Ytjfnmlheehbojaa.VA
section
variable {F : Fx} {I : Imm} {own : Nat → Option Loc} {σ : ASt} {a : Act} {w w' : World} {C : Cfg} {K : ASt → Prop} {Q : Exit → Act → World → Prop}

theorem elt_okQ {x : AV} {i off : Nat} {u : Value} {sz : Nat} {es : List AV} (hne : ∀ l i' off', AV.elt x i off ≠ .elt (.ref l) i' off') (hu : RV F I own σ a w (.elt x i off) u) (hc : σ.cont x = some (sz, es)) :
    (∃ b o, u = .pointer (some ⟨b, o + i * sz + off, none⟩) ∧ ∀ (i : Nat) e, es[i]? = some e → ∃ v, AR F.mine I e v ∧ v.cells.size = sz ∧ ∀ (j : Nat) c, v.cells[j]? = some c → I b (o + (i * sz + j)) = some c) ∨ es = [] := by
  cases x with
  | sl fr sz' es' =>
    simp only [ASt.cont, AV.elemsOf, Option.some.injEq, Prod.mk.injEq] at hc
    obtain ⟨rfl, rfl⟩ := hc
    obtain ⟨b, o, n, cap, h1, h2⟩ := hu
    cases h1 with
    | slnil => exact .inr rfl
    | sl _ _ _ _ _ _ _ hn hc vs hv hz hI =>
      refine .inl ⟨b, o, h2, fun i e he => ?_⟩
      have hi := (List.getElem?_eq_some_iff.1 he).1
      exact ⟨vs i, hv i e he, hz i hi, fun j c hj => by rw [← Nat.add_assoc]; exact hI i j c hi hj⟩
  | ref l => exact absurd rfl (hne l i off)
  | own => exact hu.elim
  | _ => simp [ASt.cont, AV.elemsOf] at hc

theorem op_loadQ (hC : F.C = C) (hok : CfgOk C) (h : RI F I own σ a w) {dst : Option Tmp} {T ty : TypeId} {x : Operand} {pos : String} {after : Array Edge} {g : Option (Nat × Bool)}
    (hlk : ∀ k off, σ.rd C 0 x = .var k off → F.lv k = true)
    (hne : ∀ l i off, σ.rd C 0 x ≠ .elt (.ref l) i off) (hw : (opR C σ dst ty (.load T x)).wp C K) : Quiet F I C.P ⟨dst, .load T x, ty, pos, after, g⟩ a w (Post F K) := by
  have hx := rd_ok h C 0 x
  simp only [opR] at hw
  generalize σ.rd C 0 x = y at hx hw hne hlk
  cases y <;> simp only [loadR] at hw <;> try exact hw.elim
  case var k off =>
    have hchk := chk_ok hw
    clear hw
    obtain ⟨hkn, hw⟩ := hchk
    have hfit := hok.fit T hkn
    cases hk : look σ.vars k with
    | none => rw [hk] at hw; exact hw.elim
    | some cs =>
      rw [hk] at hw
      obtain ⟨b, hb, hv⟩ := hx cs hk
      obtain ⟨b', hb1, hb2, hb3, hb4⟩ := h.boxes k cs hk
      rw [hb] at hb1
      obtain rfl : b = b' := by cases hb1; rfl
      have hbl := h.lk.all k (hlk k off rfl) cs b hk hb
      have hcl : ∀ w2, Later F I w2 → ∀ o, w2.cell? ⟨b, o, none⟩ = w.cell? ⟨b, o, none⟩ := fun w2 hl2 o => World.cell?_of_block ((hl2.2 b hbl).trans (h.lk.stay b hbl).1.symm)
      have hconc : ∀ j, conc a w (.cell k j) = w.cell? ⟨b, j, none⟩ := fun j => by simp only [conc, hb, cellOf]
      simp only [VA.loadVar] at hw
      cases hag : (C.ti T).kind.isAgg with
      | true =>
        rw [if_pos hag] at hw
        have hchk := chk_ok hw
        clear hw
        obtain ⟨h1, hw⟩ := hchk
        simp only [Bool.and_eq_true, decide_eq_true_eq] at h1
        obtain ⟨h1, h2⟩ := h1
        generalize hn : (C.ti T).size = n at *
        have hcell : ∀ j, j < n → ∃ v, w.cell? ⟨b, off + j, none⟩ = some v ∧ v.oneCell' = true := fun j hj => by
          obtain ⟨v, v1, v2, _⟩ := hb4 (off + j) (by omega)
          exact ⟨v, v1, v2⟩
        obtain ⟨vals, hvl, hvals⟩ : ∃ vals : List Value, vals.length = n ∧ ∀ j, j < n → vals[j]? = w.cell? ⟨b, off + j, none⟩ := by
          refine ⟨(List.range n).map fun j => (w.cell? ⟨b, off + j, none⟩).getD undef, by simp, fun j hj => ?_⟩
          obtain ⟨v, v1, _⟩ := hcell j hj
          simp [hj, v1]
        have hrun : ∀ w2, Later F I w2 → (Go.loadVar T ⟨b, off, none⟩).run C.P w2 = .ok (.agg vals.toArray) w2 := by
          intro w2 hl2
          refine loadVar_agg (by rw [fit_isAgg hfit w2, hag]) (by rw [fit_sizeOf hfit w2, hn]) vals hvl fun j v hj => ?_
          have hjl := (List.getElem?_eq_some_iff.1 hj).1
          rw [Addr.add_lit, hcl w2 hl2, ← hvals j (by omega)]; exact hj
        refine by_q (v := .agg vals.toArray) (fun w2 hl2 => by simp [execOp, run_loadAt hv (hrun w2 hl2)]) ?_
        obtain ⟨J, j1, j2⟩ := markCells h hk off n h1
        refine wr_rv hC j2 hw (AR.agg _ _ (by simp [hvl]; omega) (fun j v hj => ?_) fun j c v hj hv' => ?_)
        · simp only [List.getElem?_toArray] at hj
          have hjl := (List.getElem?_eq_some_iff.1 hj).1
          obtain ⟨v', v1, v2⟩ := hcell j (by omega)
          rw [hvals j (by omega), v1] at hj
          cases hj
          exact v2
        · simp only [List.getElem?_toArray] at hv'
          have hjl := (List.getElem?_eq_some_iff.1 hv').1
          have hjn : j < n := by omega
          have hcs : cs[off + j]? = some cs[off + j] := List.getElem?_eq_getElem (by omega)
          rw [List.getElem?_map, List.getElem?_take_of_lt hjn, List.getElem?_drop, hcs] at hj
          simp only [Option.map_some, Option.some.injEq] at hj
          subst hj
          have hat : ASt.at { σ with vars := ins k (markFrom cs off n) σ.vars } (.cell k (off + j)) = some cs[off + j].mark := by
            simp only [ASt.at, look_ins, if_true, cellAt, markFrom_get cs off n (off + j) h1]
            rw [if_pos (by omega), hcs]; rfl
          obtain ⟨v2, e1, e2⟩ := j2.slots _ _ hat
          rw [hconc, ← hvals j hjn, hv'] at e1
          cases e1
          have him : cs[off + j].frz.isImm = true := by
            have := List.all_eq_true.1 h2 cs[off + j] (by
              refine List.mem_of_getElem? (i := j) ?_
              rw [List.getElem?_take_of_lt hjn, List.getElem?_drop, hcs])
            exact this
          have hmf : cs[off + j].mark.frz = cs[off + j].frz := by cases cs[off + j] <;> rfl
          have hmm : cs[off + j].mark.mark = cs[off + j].mark := by cases cs[off + j] <;> rfl
          have := frz_ar j2 e2 hmm (by rw [hmf]; exact him)
          rw [hmf] at this
          exact this
      | false =>
        rw [if_neg (by rw [hag]; simp)] at hw
        cases hcs : cs[off]? with
        | none => rw [hcs] at hw; exact hw.elim
        | some y =>
          rw [hcs] at hw
          have hat : σ.at (.cell k off) = some y := by simp only [ASt.at, hk, cellAt]; exact hcs
          obtain ⟨v, e1, e2⟩ := h.slots _ _ hat
          rw [hconc] at e1
          have hrun : ∀ w2, Later F I w2 → (Go.loadVar T ⟨b, off, none⟩).run C.P w2 = .ok v w2 := fun w2 hl2 => loadVar_one (by rw [fit_isAgg hfit w2, hag]) (by rw [hcl w2 hl2]; exact e1)
          refine by_q (v := v) (fun w2 hl2 => by simp [execOp, run_loadAt hv (hrun w2 hl2)]) ?_
          have him : y.isImm = true → (σ.wr C dst y).wp C K → Post F K (a.put dst v) w := fun hi hw => wr_rv hC h hw ((rv_imm hi).2 ((srep_imm hi).1 e2))
          have imm : (R.chk y.isImm (σ.wr C dst y)).wp C K → Post F K (a.put dst v) w := fun hw => by
            obtain ⟨h1, h2⟩ := chk_ok hw
            exact him h1 h2
          cases y with
          | own sh sz es =>
            refine wr_rv hC h hw ?_
            intro sh' sz' es' _
            rw [hconc]; exact e1
          | _ => exact imm hw
  case elt y i off =>
    have hchk := chk_ok hw
    clear hw
    obtain ⟨hkn, hw⟩ := hchk
    have hfit := hok.fit T hkn
    cases hc : σ.cont y with
    | none => rw [hc] at hw; exact hw.elim
    | some q =>
      obtain ⟨sz, es⟩ := q
      rw [hc] at hw
      simp only [loadElt] at hw
      have hyo : ∀ sh sz es, y ≠ .own sh sz es := by
        rintro sh sz es rfl
        exact hx.elim
      cases he : es[i]? with
      | none => rw [he] at hw; exact hw.elim
      | some e =>
        rw [he] at hw
        rcases elt_okQ hne hx hc with ⟨b, o, hv, hlies⟩ | rfl
        case inr => simp at he
        obtain ⟨u, hu1, hu2, hu3'⟩ := hlies i e he
        have hu3 : ∀ w2, Later F I w2 → ∀ (j : Nat) c, u.cells[j]? = some c → w2.cell? ⟨b, o + (i * sz + j), none⟩ = some c := fun w2 hl2 j c hj => hl2.1 _ _ _ (hu3' j c hj)
        simp only [loadElem] at hw
        cases hag : (C.ti T).kind.isAgg with
        | true =>
          rw [if_pos hag] at hw
          by_cases hwh : (decide (off = 0) && decide ((C.ti T).size = sz)) = true
          · rw [if_pos hwh] at hw
            simp only [Bool.and_eq_true, decide_eq_true_eq] at hwh
            obtain ⟨rfl, hs⟩ := hwh
            have hchk := chk_ok hw
            clear hw
            obtain ⟨hagg, hw⟩ := hchk
            obtain ⟨cs, rfl⟩ : ∃ cs, e = .agg cs := by cases e <;> first | exact ⟨_, rfl⟩ | cases hagg
            cases hu1 with
            | agg _ vs hl h1 hh =>
              have hrun : ∀ w2, Later F I w2 → (Go.loadVar T ⟨b, o + i * sz, none⟩).run C.P w2 = .ok (.agg vs.toList.toArray) w2 := by
                intro w2 hl2
                refine loadVar_agg (by rw [fit_isAgg hfit w2, hag]) (by rw [fit_sizeOf hfit w2, hs]) vs.toList (by rw [Array.length_toList]; exact hu2) fun j v hj => ?_
                rw [Addr.add_lit, Nat.add_assoc]
                exact hu3 w2 hl2 j v (by simpa [Value.cells] using hj)
              refine by_q (v := .agg vs) (fun w2 hl2 => by simp [execOp, run_loadAt hv (hrun w2 hl2)]) ?_
              exact wrImm_ok hC h hw fun y hy => by cases hy; exact .agg _ vs hl h1 hh
          · rw [if_neg hwh] at hw
            cases e <;> simp only [aggPart] at hw <;> try exact hw.elim
            rename_i cs
            by_cases hle : off + (C.ti T).size ≤ cs.length
            case neg => rw [if_neg hle] at hw; exact hw.elim
            rw [if_pos hle] at hw
            generalize hn : (C.ti T).size = n at *
            cases hu1 with
            | agg _ vs hl h1 hh =>
              have hrun : ∀ w2, Later F I w2 → (Go.loadVar T ⟨b, o + i * sz + off, none⟩).run C.P w2 = .ok (.agg ((vs.toList.drop off).take n).toArray) w2 := by
                intro w2 hl2
                refine loadVar_agg (by rw [fit_isAgg hfit w2, hag]) (by rw [fit_sizeOf hfit w2, hn]) ((vs.toList.drop off).take n) (by simp; omega) fun j v hj => ?_
                have hjl : j < n := by
                  have := (List.getElem?_eq_some_iff.1 hj).1
                  simp at this; omega
                rw [List.getElem?_take_of_lt hjl, List.getElem?_drop] at hj
                rw [Addr.add_lit, show o + i * sz + off + j = o + (i * sz + (off + j)) by omega]
                exact hu3 w2 hl2 (off + j) v (by simpa [Value.cells] using hj)
              refine by_q (v := .agg ((vs.toList.drop off).take n).toArray) (fun w2 hl2 => by simp [execOp, run_loadAt hv (hrun w2 hl2)]) ?_
              refine wrImm_ok hC h hw fun y hy => ?_
              cases hy
              refine .agg _ _ (by simp; omega) (fun j v hj => ?_) fun j c v hj hv' => ?_
              · simp only [List.getElem?_toArray] at hj
                have hjl : j < n := by
                  have := (List.getElem?_eq_some_iff.1 hj).1
                  simp at this; omega
                rw [List.getElem?_take_of_lt hjl, List.getElem?_drop] at hj
                exact h1 (off + j) v (by simpa using hj)
              · simp only [List.getElem?_toArray] at hv'
                have hjl : j < n := by
                  have := (List.getElem?_eq_some_iff.1 hv').1
                  simp at this; omega
                rw [List.getElem?_take_of_lt hjl, List.getElem?_drop] at hj hv'
                exact hh (off + j) c v hj (by simpa using hv')
        | false =>
          rw [if_neg (by rw [hag]; simp)] at hw
          cases hf : e.flat[off]? with
          | none => rw [hf] at hw; exact hw.elim
          | some y =>
            rw [hf] at hw
            have hol : off < u.cells.size := by
              rw [← hu1.flen]; exact (List.getElem?_eq_some_iff.1 hf).1
            have hcu := Array.getElem?_eq_getElem hol
            have hrun : ∀ w2, Later F I w2 → (Go.loadVar T ⟨b, o + i * sz + off, none⟩).run C.P w2 = .ok u.cells[off] w2 := fun w2 hl2 => loadVar_one (by rw [fit_isAgg hfit w2, hag]) (by rw [Nat.add_assoc]; exact hu3 w2 hl2 off _ hcu)
            refine by_q (v := u.cells[off]) (fun w2 hl2 => by simp [execOp, run_loadAt hv (hrun w2 hl2)]) ?_
            exact wrImm_ok hC h hw fun y' hy => by cases hy; exact hu1.fcell off _ _ hf hcu


theorem op_convertQ (hC : F.C = C) (hok : CfgOk C) (h : RI F I own σ a w) {dst : Option Tmp} {S T ty : TypeId} {x : Operand} {pos : String} {after : Array Edge} {g : Option (Nat × Bool)}
    (hcq : convQ (C.ti S).kind (C.ti T).kind = true) (hw : (opR C σ dst ty (.convert S T x)).wp C K) : Quiet F I C.P ⟨dst, .convert S T x, ty, pos, after, g⟩ a w (Post F K) := by
  have hx := rd_ok h C S x
  simp only [opR] at hw
  generalize σ.rd C S x = X at hx hw
  generalize hq : (C.ti S).kind = ks at hw hcq
  generalize hq' : (C.ti T).kind = kt at hw hcq
  unfold convR at hw
  split at hw
  · rename_i k1 k k2 n
    have e := ar_int ((rv_imm rfl).1 hx)
    have hS := (hok.fit S (by rw [hq]; rfl)).kind
    have hT := (hok.fit T (by rw [hq']; rfl)).kind
    rw [hq] at hS
    rw [hq'] at hT
    refine by_q (v := .int k (k.wrap n)) (fun w2 hl2 => ?_) (wr_int hC h hw)
    simp [execOp, convert, run_underlying (show C.P.underlying S = some (.int k1) from hS), run_underlying (show C.P.underlying T = some (.int k) from hT), e, Conv.intToInt]
  · rename_i s
    have e := ar_str ((rv_imm rfl).1 hx)
    have hS := (hok.fit S (by rw [hq]; rfl)).kind
    have hT := (hok.fit T (by rw [hq']; rfl)).kind
    rw [hq] at hS
    rw [hq'] at hT
    refine by_q (v := .string ⟨s.toArray⟩) (fun w2 hl2 => ?_) (wr_str hC h hw)
    simp [execOp, convert, run_underlying (show C.P.underlying S = some .string from hS), run_underlying (show C.P.underlying T = some .string from hT), e]
  · cases hcq
  · cases hcq
  · exact hw.elim

end
end Go.Proofs.Ytjfnmlheehbojaa.VA
