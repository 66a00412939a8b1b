/- Reading and writing memory. -/
import Derived.Test.YtjfnmlheehbojaaVaOps1
namespace Go.Proofs.Ytjfnmlheehbojaa.VA
section
variable {F : Fx} {I : Imm} {own : Nat → Option Loc} {σ : ASt} {a : Act} {w w' : World} {C : Cfg} {K : ASt → Prop} {Q : Exit → Act → World → Prop}

theorem run_loadAt {P : Program} {T : TypeId} {p : Addr} {v u : Value} (hv : u = .pointer (some p)) (h : (Go.loadVar T p).run P w = .ok v w) : (Instr.loadAt T u).run P w = .ok v w := by
  subst hv; simp [Instr.loadAt, Instr.sureAddr, h]

/-- Where an element's address leads. -/
theorem elt_ok (h : RI F I own σ a w) {x : AV} {i off : Nat} {u : Value} {sz : Nat} {es : List AV} (hu : RV F I own σ a w (.elt x i off) u) (hc : σ.cont x = some (sz, es)) (hx : ∀ sh sz es, x ≠ .own sh sz es) :
    (∃ b o, u = .pointer (some ⟨b, o + i * sz + off, none⟩) ∧ Lies F.mine I sz es fun q => w.cell? ⟨b, o + q, none⟩) ∨ es = [] := by
  cases x with
  | own sh sz es => exact absurd rfl (hx _ _ _)
  | sl fr sz' es' =>
    simp only [ASt.cont, AV.elemsOf, Option.some.injEq, Prod.mk.injEq] at hc
    obtain ⟨rfl, rfl⟩ := hc
    obtain ⟨b, o, n, cap, h1, h2⟩ := hu
    left
    refine ⟨b, o, h2, ?_⟩
    obtain ⟨base, n', cap', e1, e2, e3, e4⟩ := ar_holds h.imm h1
    cases e1
    cases es' with
    | nil => intro i e he; simp at he
    | cons e es' =>
      obtain ⟨b', o', e5, e6⟩ := e4 0 e rfl
      cases e5
      exact e6
  | ref l =>
    simp only [ASt.cont] at hc
    cases hl : σ.at l with
    | none => rw [hl] at hc; cases hc
    | some q =>
      rw [hl] at hc
      cases q <;> simp only [AV.elemsO] at hc <;> try cases hc
      rename_i sh
      obtain ⟨g, n, cap, h1, h2⟩ := hu sh sz es hl
      obtain ⟨v, hv, hr⟩ := h.slots l _ hl
      rw [h1] at hv
      cases hv
      rcases hr with ⟨e, _⟩ | ⟨g', cap', e, _, hrow⟩
      · cases e
      · cases e
        left
        refine ⟨g, 0, by rw [Nat.zero_add]; exact h2, ?_⟩
        have := hrow.lies
        simpa only [Nat.zero_add] using this
  | _ => simp [ASt.cont, AV.elemsOf] at hc

theorem op_load (hC : F.C = C) (hok : CfgOk C) (h : RI F I own σ a w) {dst : Option Tmp} {T ty : TypeId} {x : Operand} {pos : String} {after : Array Edge} {g : Option (Nat × Bool)}
    (hw : (opR C σ dst ty (.load T x)).wp C K) : Oper.wp C.P ⟨dst, .load T x, ty, pos, after, g⟩ a w (Post F K) Q := by
  have hx := rd_ok h C 0 x
  simp only [opR] at hw
  generalize σ.rd C 0 x = y at hx hw
  cases y <;> simp only [loadR] at hw <;> try exact hw.elim
  case var k off =>
    have hchk := chk_ok hw
    clear hw
    obtain ⟨hkn, hw⟩ := hchk
    have hfit := hok.fit T hkn
    cases hk : look σ.vars k with
    | none => rw [hk] at hw; exact hw.elim
    | some cs =>
      rw [hk] at hw
      obtain ⟨b, hb, hv⟩ := hx cs hk
      obtain ⟨b', hb1, hb2, hb3, hb4⟩ := h.boxes k cs hk
      rw [hb] at hb1
      obtain rfl : b = b' := by cases hb1; rfl
      have hconc : ∀ j, conc a w (.cell k j) = w.cell? ⟨b, j, none⟩ := fun j => by simp only [conc, hb, cellOf]
      simp only [VA.loadVar] at hw
      cases hag : (C.ti T).kind.isAgg with
      | true =>
        rw [if_pos hag] at hw
        have hchk := chk_ok hw
        clear hw
        obtain ⟨h1, hw⟩ := hchk
        simp only [Bool.and_eq_true, decide_eq_true_eq] at h1
        obtain ⟨h1, h2⟩ := h1
        generalize hn : (C.ti T).size = n at *
        have hcell : ∀ j, j < n → ∃ v, w.cell? ⟨b, off + j, none⟩ = some v ∧ v.oneCell' = true := fun j hj => by
          obtain ⟨v, v1, v2, _⟩ := hb4 (off + j) (by omega)
          exact ⟨v, v1, v2⟩
        obtain ⟨vals, hvl, hvals⟩ : ∃ vals : List Value, vals.length = n ∧ ∀ j, j < n → vals[j]? = w.cell? ⟨b, off + j, none⟩ := by
          refine ⟨(List.range n).map fun j => (w.cell? ⟨b, off + j, none⟩).getD undef, by simp, fun j hj => ?_⟩
          obtain ⟨v, v1, _⟩ := hcell j hj
          simp [hj, v1]
        have hrun : (Go.loadVar T ⟨b, off, none⟩).run C.P w = .ok (.agg vals.toArray) w := by
          refine loadVar_agg (by rw [fit_isAgg hfit w, hag]) (by rw [fit_sizeOf hfit w, hn]) vals hvl fun j v hj => ?_
          have hjl := (List.getElem?_eq_some_iff.1 hj).1
          rw [Addr.add_lit, ← hvals j (by omega)]; exact hj
        refine by_value (w' := w) (v := .agg vals.toArray) (by simp [execOp, run_loadAt hv hrun]) ?_
        obtain ⟨J, j1, j2⟩ := markCells h hk off n h1
        refine wr_rv hC j2 hw (AR.agg _ _ (by simp [hvl]; omega) (fun j v hj => ?_) fun j c v hj hv' => ?_)
        · simp only [List.getElem?_toArray] at hj
          have hjl := (List.getElem?_eq_some_iff.1 hj).1
          obtain ⟨v', v1, v2⟩ := hcell j (by omega)
          rw [hvals j (by omega), v1] at hj
          cases hj
          exact v2
        · simp only [List.getElem?_toArray] at hv'
          have hjl := (List.getElem?_eq_some_iff.1 hv').1
          have hjn : j < n := by omega
          have hcs : cs[off + j]? = some cs[off + j] := List.getElem?_eq_getElem (by omega)
          rw [List.getElem?_map, List.getElem?_take_of_lt hjn, List.getElem?_drop, hcs] at hj
          simp only [Option.map_some, Option.some.injEq] at hj
          subst hj
          have hat : ASt.at { σ with vars := ins k (markFrom cs off n) σ.vars } (.cell k (off + j)) = some cs[off + j].mark := by
            simp only [ASt.at, look_ins, if_true, cellAt, markFrom_get cs off n (off + j) h1]
            rw [if_pos (by omega), hcs]; rfl
          obtain ⟨v2, e1, e2⟩ := j2.slots _ _ hat
          rw [hconc, ← hvals j hjn, hv'] at e1
          cases e1
          have him : cs[off + j].frz.isImm = true := by
            have := List.all_eq_true.1 h2 cs[off + j] (by
              refine List.mem_of_getElem? (i := j) ?_
              rw [List.getElem?_take_of_lt hjn, List.getElem?_drop, hcs])
            exact this
          have hmf : cs[off + j].mark.frz = cs[off + j].frz := by cases cs[off + j] <;> rfl
          have hmm : cs[off + j].mark.mark = cs[off + j].mark := by cases cs[off + j] <;> rfl
          have := frz_ar j2 e2 hmm (by rw [hmf]; exact him)
          rw [hmf] at this
          exact this
      | false =>
        rw [if_neg (by rw [hag]; simp)] at hw
        cases hcs : cs[off]? with
        | none => rw [hcs] at hw; exact hw.elim
        | some y =>
          rw [hcs] at hw
          have hat : σ.at (.cell k off) = some y := by simp only [ASt.at, hk, cellAt]; exact hcs
          obtain ⟨v, e1, e2⟩ := h.slots _ _ hat
          rw [hconc] at e1
          have hrun : (Go.loadVar T ⟨b, off, none⟩).run C.P w = .ok v w := loadVar_one (by rw [fit_isAgg hfit w, hag]) e1
          refine by_value (w' := w) (v := v) (by simp [execOp, run_loadAt hv hrun]) ?_
          have him : y.isImm = true → (σ.wr C dst y).wp C K → Post F K (a.put dst v) w := fun hi hw => wr_rv hC h hw ((rv_imm hi).2 ((srep_imm hi).1 e2))
          have imm : (R.chk y.isImm (σ.wr C dst y)).wp C K → Post F K (a.put dst v) w := fun hw => by
            obtain ⟨h1, h2⟩ := chk_ok hw
            exact him h1 h2
          cases y with
          | own sh sz es =>
            refine wr_rv hC h hw ?_
            intro sh' sz' es' _
            rw [hconc]; exact e1
          | _ => exact imm hw
  case elt y i off =>
    have hchk := chk_ok hw
    clear hw
    obtain ⟨hkn, hw⟩ := hchk
    have hfit := hok.fit T hkn
    cases hc : σ.cont y with
    | none => rw [hc] at hw; exact hw.elim
    | some q =>
      obtain ⟨sz, es⟩ := q
      rw [hc] at hw
      simp only [loadElt] at hw
      have hyo : ∀ sh sz es, y ≠ .own sh sz es := by
        rintro sh sz es rfl
        exact hx.elim
      cases he : es[i]? with
      | none => rw [he] at hw; exact hw.elim
      | some e =>
        rw [he] at hw
        rcases elt_ok h hx hc hyo with ⟨b, o, hv, hlies⟩ | rfl
        case inr => simp at he
        obtain ⟨u, hu1, hu2, hu3⟩ := hlies i e he
        simp only [loadElem] at hw
        cases hag : (C.ti T).kind.isAgg with
        | true =>
          rw [if_pos hag] at hw
          by_cases hwh : (decide (off = 0) && decide ((C.ti T).size = sz)) = true
          · rw [if_pos hwh] at hw
            simp only [Bool.and_eq_true, decide_eq_true_eq] at hwh
            obtain ⟨rfl, hs⟩ := hwh
            have hchk := chk_ok hw
            clear hw
            obtain ⟨hagg, hw⟩ := hchk
            obtain ⟨cs, rfl⟩ : ∃ cs, e = .agg cs := by cases e <;> first | exact ⟨_, rfl⟩ | cases hagg
            cases hu1 with
            | agg _ vs hl h1 hh =>
              have hrun : (Go.loadVar T ⟨b, o + i * sz, none⟩).run C.P w = .ok (.agg vs.toList.toArray) w := by
                refine loadVar_agg (by rw [fit_isAgg hfit w, hag]) (by rw [fit_sizeOf hfit w, hs]) vs.toList (by rw [Array.length_toList]; exact hu2) fun j v hj => ?_
                rw [Addr.add_lit, Nat.add_assoc]
                exact hu3 j v (by simpa [Value.cells] using hj)
              refine by_value (w' := w) (v := .agg vs) (by simp [execOp, run_loadAt hv hrun]) ?_
              exact wrImm_ok hC h hw fun y hy => by cases hy; exact .agg _ vs hl h1 hh
          · rw [if_neg hwh] at hw
            cases e <;> simp only [aggPart] at hw <;> try exact hw.elim
            rename_i cs
            by_cases hle : off + (C.ti T).size ≤ cs.length
            case neg => rw [if_neg hle] at hw; exact hw.elim
            rw [if_pos hle] at hw
            generalize hn : (C.ti T).size = n at *
            cases hu1 with
            | agg _ vs hl h1 hh =>
              have hrun : (Go.loadVar T ⟨b, o + i * sz + off, none⟩).run C.P w = .ok (.agg ((vs.toList.drop off).take n).toArray) w := by
                refine loadVar_agg (by rw [fit_isAgg hfit w, hag]) (by rw [fit_sizeOf hfit w, hn]) ((vs.toList.drop off).take n) (by simp; omega) fun j v hj => ?_
                have hjl : j < n := by
                  have := (List.getElem?_eq_some_iff.1 hj).1
                  simp at this; omega
                rw [List.getElem?_take_of_lt hjl, List.getElem?_drop] at hj
                rw [Addr.add_lit, show o + i * sz + off + j = o + (i * sz + (off + j)) by omega]
                exact hu3 (off + j) v (by simpa [Value.cells] using hj)
              refine by_value (w' := w) (v := .agg ((vs.toList.drop off).take n).toArray) (by simp [execOp, run_loadAt hv hrun]) ?_
              refine wrImm_ok hC h hw fun y hy => ?_
              cases hy
              refine .agg _ _ (by simp; omega) (fun j v hj => ?_) fun j c v hj hv' => ?_
              · simp only [List.getElem?_toArray] at hj
                have hjl : j < n := by
                  have := (List.getElem?_eq_some_iff.1 hj).1
                  simp at this; omega
                rw [List.getElem?_take_of_lt hjl, List.getElem?_drop] at hj
                exact h1 (off + j) v (by simpa using hj)
              · simp only [List.getElem?_toArray] at hv'
                have hjl : j < n := by
                  have := (List.getElem?_eq_some_iff.1 hv').1
                  simp at this; omega
                rw [List.getElem?_take_of_lt hjl, List.getElem?_drop] at hj hv'
                exact hh (off + j) c v hj (by simpa using hv')
        | false =>
          rw [if_neg (by rw [hag]; simp)] at hw
          cases hf : e.flat[off]? with
          | none => rw [hf] at hw; exact hw.elim
          | some y =>
            rw [hf] at hw
            have hol : off < u.cells.size := by
              rw [← hu1.flen]; exact (List.getElem?_eq_some_iff.1 hf).1
            have hcu := Array.getElem?_eq_getElem hol
            have hcell := hu3 off _ hcu
            have hrun : (Go.loadVar T ⟨b, o + i * sz + off, none⟩).run C.P w = .ok u.cells[off] w := loadVar_one (by rw [fit_isAgg hfit w, hag]) (by rw [Nat.add_assoc]; exact hcell)
            refine by_value (w' := w) (v := u.cells[off]) (by simp [execOp, run_loadAt hv hrun]) ?_
            exact wrImm_ok hC h hw fun y' hy => by cases hy; exact hu1.fcell off _ _ hf hcu

/-- A value is laid into cells. -/
theorem run_storeAt {P : Program} {T : TypeId} {b o : Nat} {u v : Value} (hu : u = .pointer (some ⟨b, o, none⟩)) {n : Nat} (hs : (sizeOf T).run P w = .ok n w) (hn : v.cells.size = n)
    (hc : ∀ j, j < n → ∃ x, w.cell? ⟨b, o + j, none⟩ = some x ∧ w.frozen? ⟨b, o + j, none⟩ = false) (h1 : ∀ x ∈ v.cells.toList, x.oneCell' = true) :
    (Instr.storeAt T u v).run P w = .ok () (w.setCells b o v.cells.toList) ∧ Wr w (w.setCells b o v.cells.toList) b o v.cells.toList := by
  subst hu
  have hst := run_storeCells_cells (P := P) b o v.cells.toList 0 w
    (fun j hj => by obtain ⟨x, hx, _⟩ := hc j (by simpa [hn] using hj); rw [Nat.add_zero, hx]; rfl)
    (fun j hj => by obtain ⟨x, _, hx⟩ := hc j (by simpa [hn] using hj); rw [Nat.add_zero]; exact hx) h1
  refine ⟨by simp [Instr.storeAt, Instr.sureAddr, Go.storeVar, hs, hn, hst], wr_setCells w b o _ fun j hj => ?_⟩
  obtain ⟨x, hx, _⟩ := hc j (by simpa [hn] using hj)
  rw [hx]; rfl

theorem imm_at {x y : AV} {τ : ASt} (he : σ.imm x = some (y, τ)) {l : Loc} {sz : Nat} {es : List AV} (hl : τ.at l = some (.own false sz es)) : σ.at l = some (.own false sz es) := by
  cases x with
  | own sh sz' es' =>
    cases es' with
    | nil => simp only [ASt.imm, Option.some.injEq, Prod.mk.injEq] at he; obtain ⟨rfl, rfl⟩ := he; exact hl
    | cons => simp [ASt.imm, AV.isImm] at he
  | ref l' =>
    simp only [ASt.imm] at he
    cases hl' : σ.at l' with
    | none => rw [hl'] at he; cases he
    | some q =>
      rw [hl'] at he
      cases q <;> simp only [ASt.immRef] at he <;> try cases he
      by_cases hp : l'.plain = true
      · rw [if_pos hp] at he
        simp only [Option.some.injEq, Prod.mk.injEq] at he
        obtain ⟨rfl, rfl⟩ := he
        rw [at_turn hp hl'] at hl
        by_cases e : l = l'
        · rw [if_pos e] at hl; cases hl
        · rw [if_neg e] at hl; exact hl
      · rw [if_neg hp] at he; cases he
  | _ => simp only [ASt.imm] at he <;> (try (split at he)) <;> first | cases he; exact hl | cases he

theorem drop_vars {l : Loc} {k : Nat} {cs : List AV} (hk : look σ.vars k = some cs) : ∃ cs', look (σ.drop l).vars k = some cs' ∧ cs'.length = cs.length := by
  cases l with
  | tmp t => exact ⟨cs, hk, rfl⟩
  | cell k' j =>
    simp only [ASt.drop, ASt.setCell]
    cases hk' : look σ.vars k' with
    | none => exact ⟨cs, hk, rfl⟩
    | some cs0 =>
      simp only [ASt.setCellO, look_ins]
      by_cases e : k = k'
      · subst e
        rw [hk] at hk'
        cases hk'
        exact ⟨cs.set j .bot, by simp, by simp⟩
      · simp only [e, if_false]; exact ⟨cs, hk, rfl⟩
  | comp t j =>
    simp only [ASt.drop]
    cases ht : look σ.tmps t with
    | none => exact ⟨cs, hk, rfl⟩
    | some y => cases y <;> exact ⟨cs, hk, rfl⟩
  | box k => exact ⟨cs, hk, rfl⟩

/-- One element of a row is written anew. -/
theorem Lies.set {M : Nat → Prop} {sz : Nat} {es : List AV} {g : Nat} (hl : Lies M I sz es fun q => w.cell? ⟨g, q, none⟩) {i off : Nat} {vals : List Value} (hW : Wr w w' g (i * sz + off) vals) (hoff : off + vals.length ≤ sz)
    {e' : AV} {u u' : Value} (hu : ∀ (j : Nat) c, u.cells[j]? = some c → w.cell? ⟨g, i * sz + j, none⟩ = some c) (hu' : AR M I e' u') (hs : u'.cells.size = sz)
    (hc : ∀ (j : Nat) c, u'.cells[j]? = some c → if off ≤ j ∧ j < off + vals.length then vals[j - off]? = some c else u.cells[j]? = some c) :
    Lies M I sz (es.set i e') fun q => w'.cell? ⟨g, q, none⟩ := by
  intro i2 e he
  rw [List.getElem?_set] at he
  by_cases hi : i = i2
  · subst hi
    rw [if_pos rfl] at he
    split at he
    · cases he
      refine ⟨u', hu', hs, fun j c hj => ?_⟩
      have := hc j c hj
      by_cases h1 : off ≤ j ∧ j < off + vals.length
      · rw [if_pos h1] at this
        have h2 := hW.cin (j - off) (by omega)
        rw [show i * sz + off + (j - off) = i * sz + j by omega] at h2
        simp only
        rw [h2]; exact this
      · rw [if_neg h1] at this
        simp only
        rw [hW.cout _ (by omega)]
        exact hu j c this
    · cases he
  · rw [if_neg hi] at he
    obtain ⟨v, v1, v2, v3⟩ := hl i2 e he
    refine ⟨v, v1, v2, fun j c hj => ?_⟩
    have hjs : j < sz := by rw [← v2]; exact (Array.getElem?_eq_some_iff.1 hj).1
    simp only
    rw [hW.cout]
    · exact v3 j c hj
    · rcases Nat.lt_or_gt_of_ne hi with h1 | h1
      · have : (i + 1) * sz ≤ i2 * sz := Nat.mul_le_mul_right _ h1
        rw [Nat.add_mul] at this
        omega
      · have : (i2 + 1) * sz ≤ i * sz := Nat.mul_le_mul_right _ h1
        rw [Nat.add_mul] at this
        omega

theorem look_redir (t : Nat) (l : Loc) : ∀ (r : List (Nat × AV)) (j : Nat), look (VA.redir t l r) j = (look r j).map fun y => if Nat.beq j t = true then .ref l else AV.redir t l y
  | [], j => rfl
  | (i, y) :: r, j => by
    unfold VA.redir look
    by_cases e : j = i
    · rw [if_pos e, if_pos e, e]; rfl
    · rw [if_neg e, if_neg e, look_redir t l r j]
theorem redir_own {t : Nat} {l : Loc} {y : AV} {sh sz es} : AV.redir t l y = .own sh sz es ↔ y = .own sh sz es := by
  unfold AV.redir
  split
  · split <;> simp
  · split <;> simp
  · exact Iff.rfl
theorem redir_tup {t : Nat} {l : Loc} {y : AV} {vs} : AV.redir t l y = .tup vs ↔ y = .tup vs := by
  unfold AV.redir
  split
  · split <;> simp
  · split <;> simp
  · exact Iff.rfl
/-- The temporaries are told otherwise. -/
theorem RI.tmps (h : RI F I own σ a w) {T2 : List (Nat × AV)} (hown : ∀ t sh sz es, look T2 t = some (.own sh sz es) ↔ look σ.tmps t = some (.own sh sz es)) (htup : ∀ t vs, look T2 t = some (.tup vs) ↔ look σ.tmps t = some (.tup vs))
    (hs : ∀ t x, look T2 t = some x → look σ.tmps t = some x ∨ ∃ v, a.tmps[t]? = some v ∧ SRep F I own { σ with tmps := T2 } a w (.tmp t) x v) : RI F I own { σ with tmps := T2 } a w := by
  have hat : ∀ l sh sz es, ASt.at { σ with tmps := T2 } l = some (.own sh sz es) ↔ σ.at l = some (.own sh sz es) := by
    intro l sh sz es
    cases l with
    | tmp t => exact hown t sh sz es
    | cell k j => exact Iff.rfl
    | comp t j =>
      show AV.compAt j (look T2 t) = _ ↔ AV.compAt j (look σ.tmps t) = _
      constructor
      · intro e
        cases h2 : look T2 t with
        | none => rw [h2] at e; cases e
        | some y =>
          rw [h2] at e
          cases y <;> try (cases e; done)
          rw [(htup t _).1 h2]
          exact e
      · intro e
        cases h2 : look σ.tmps t with
        | none => rw [h2] at e; cases e
        | some y =>
          rw [h2] at e
          cases y <;> try (cases e; done)
          rw [(htup t _).2 h2]
          exact e
    | box k => exact Iff.rfl
  have keep : ∀ {l x v}, SRep F I own σ a w l x v → SRep F I own { σ with tmps := T2 } a w l x v := fun hx =>
    hx.keep (Imm.leRefl I) (fun g sh sz es cap _ h1 h2 => ⟨h1, h2⟩) (fun l' _ sh sz es he => ⟨⟨sh, es, (hat l' sh sz es).1 he⟩, rfl⟩) (fun k off _ cs hk => ⟨⟨cs, hk⟩, rfl⟩)
  refine { h with slots := fun l x hx => ?_, quiet := fun l x hx hl => ?_, lk := ?_ }
  · cases l with
    | tmp t =>
      rcases hs t x hx with e | ⟨v, e1, e2⟩
      · obtain ⟨v, e1, e2⟩ := h.slots (.tmp t) x e
        exact ⟨v, e1, keep e2⟩
      · exact ⟨v, e1, e2⟩
    | cell k j =>
      obtain ⟨v, e1, e2⟩ := h.slots (.cell k j) x hx
      exact ⟨v, e1, keep e2⟩
    | comp t j =>
      have hx' : σ.at (.comp t j) = some x := by
        have hx : AV.compAt j (look T2 t) = some x := hx
        show AV.compAt j (look σ.tmps t) = some x
        cases h2 : look T2 t with
        | none => rw [h2] at hx; cases hx
        | some y =>
          rw [h2] at hx
          cases y <;> try (cases hx; done)
          rw [(htup t _).1 h2]
          exact hx
      obtain ⟨v, e1, e2⟩ := h.slots (.comp t j) x hx'
      exact ⟨v, e1, keep e2⟩
    | box k => cases hx
  · cases l with
    | tmp t => exact absurd rfl (hl t)
    | cell k j => exact h.quiet (.cell k j) x hx hl
    | comp t j =>
      have hx' : σ.at (.comp t j) = some x := by
        have hx : AV.compAt j (look T2 t) = some x := hx
        show AV.compAt j (look σ.tmps t) = some x
        cases h2 : look T2 t with
        | none => rw [h2] at hx; cases hx
        | some y =>
          rw [h2] at hx
          cases y <;> try (cases hx; done)
          rw [(htup t _).1 h2]
          exact hx
      exact h.quiet (.comp t j) x hx' hl
    | box k => cases hx
  · exact h.lk.keep (fun _ _ _ e => e) (fun _ _ _ _ => rfl) fun k cs e => ⟨⟨cs, e⟩, rfl⟩
/-- What a temporary held lies in a cell now: it leans on it. -/
theorem RI.redir {own' : Nat → Option Loc} {w2 : World} (h : RI F I own σ a w) {t k off : Nat} {sh : Bool} {sz : Nat} {es : List AV} {v : Value} (hl : look σ.tmps t = some (.own sh sz es)) (hv : a.tmps[t]? = some v)
    (h2 : RI F I own' (ASt.setCell { σ.put t .bot with tmps := VA.strike (AV.leans (.cell k off)) (σ.put t .bot).tmps } k off (.own sh sz es)) a w2) (hc : conc a w2 (.cell k off) = some v) (hk : ∃ cs, look σ.vars k = some cs) :
    RI F I own' (ASt.setCell { σ with tmps := VA.redir t (.cell k off) (VA.strike (AV.leans (.cell k off)) σ.tmps) } k off (.own sh sz es)) a w2 := by
  obtain ⟨cs, hk⟩ := hk
  have e1 : ASt.setCell { σ.put t .bot with tmps := VA.strike (AV.leans (.cell k off)) (σ.put t .bot).tmps } k off (.own sh sz es) = ⟨VA.strike (AV.leans (.cell k off)) (σ.put t .bot).tmps, ins k (cs.set off (.own sh sz es)) σ.vars⟩ := by
    unfold ASt.setCell
    show ASt.setCellO _ k off _ (look σ.vars k) = _
    rw [hk]; rfl
  have e2 : ASt.setCell { σ with tmps := VA.redir t (.cell k off) (VA.strike (AV.leans (.cell k off)) σ.tmps) } k off (.own sh sz es) = ⟨VA.redir t (.cell k off) (VA.strike (AV.leans (.cell k off)) σ.tmps), ins k (cs.set off (.own sh sz es)) σ.vars⟩ := by
    unfold ASt.setCell
    show ASt.setCellO _ k off _ (look σ.vars k) = _
    rw [hk]; rfl
  rw [e2]
  rw [e1] at h2
  have lk1 : ∀ s, look (VA.strike (AV.leans (.cell k off)) (σ.put t .bot).tmps) s = if s = t then some .bot else look (VA.strike (AV.leans (.cell k off)) σ.tmps) s := by
    intro s
    rw [look_strike, look_strike, look_put]
    split
    · simp [AV.leans]
    · rfl
  have lk2 : ∀ s, s ≠ t → look (VA.redir t (.cell k off) (VA.strike (AV.leans (.cell k off)) σ.tmps)) s = (look (VA.strike (AV.leans (.cell k off)) σ.tmps) s).map (AV.redir t (.cell k off)) := by
    intro s hs
    rw [look_redir]
    congr 1
    funext y
    rw [if_neg (by simpa using hs)]
  have lk3 : look (VA.redir t (.cell k off) (VA.strike (AV.leans (.cell k off)) σ.tmps)) t = some (.ref (.cell k off)) := by
    rw [look_redir, look_strike, hl]
    simp
  have hcell : ∀ sh' sz' es', ASt.at ⟨VA.redir t (.cell k off) (VA.strike (AV.leans (.cell k off)) σ.tmps), ins k (cs.set off (.own sh sz es)) σ.vars⟩ (.cell k off) = some (.own sh' sz' es') → sz' = sz := by
    intro sh' sz' es' e
    have e : cellAt off (look (ins k (cs.set off (.own sh sz es)) σ.vars) k) = some (.own sh' sz' es') := e
    rw [look_ins, if_pos rfl] at e
    simp only [cellAt] at e
    have hlt := (List.getElem?_eq_some_iff.1 e).1
    rw [List.length_set] at hlt
    rw [List.getElem?_set_self hlt] at e
    cases e; rfl
  refine h2.tmps (fun s sh' sz' es' => ?_) (fun s vs => ?_) (fun s x hx => ?_)
  · by_cases e : s = t
    · subst e
      rw [lk3, lk1, if_pos rfl]
      constructor <;> intro e <;> cases e
    · rw [lk2 s e, lk1, if_neg e, Option.map_eq_some_iff]
      constructor
      · rintro ⟨y, h3, h4⟩
        rw [h3, redir_own.1 h4]
      · intro h3
        exact ⟨_, h3, redir_own.2 rfl⟩
  · by_cases e : s = t
    · subst e
      rw [lk3, lk1, if_pos rfl]
      constructor <;> intro e <;> cases e
    · rw [lk2 s e, lk1, if_neg e, Option.map_eq_some_iff]
      constructor
      · rintro ⟨y, h3, h4⟩
        rw [h3, redir_tup.1 h4]
      · intro h3
        exact ⟨_, h3, redir_tup.2 rfl⟩
  · by_cases e : s = t
    · subst e
      rw [lk3] at hx
      cases hx
      exact .inr ⟨v, hv, fun sh' sz' es' _ => hc⟩
    · rw [lk2 s e, Option.map_eq_some_iff] at hx
      obtain ⟨y, h3, h4⟩ := hx
      have old : y ≠ .bot → look σ.tmps s = some y := by
        intro hb
        rw [look_strike, Option.map_eq_some_iff] at h3
        obtain ⟨z, h5, h6⟩ := h3
        split at h6
        · exact absurd h6.symm hb
        · rw [h5, h6]
      have same : AV.redir t (.cell k off) y = y → look (VA.strike (AV.leans (.cell k off)) (σ.put t .bot).tmps) s = some x := by
        intro h5
        rw [lk1, if_neg e, h3, ← h4, h5]
      unfold AV.redir at h4
      split at h4
      · rename_i q
        split at h4
        · rename_i hq
          obtain rfl : q = t := by simpa using hq
          subst h4
          obtain ⟨u, u1, u2⟩ := h.slots (.tmp s) _ (old (by simp))
          have : a.tmps[q]? = some u := u2 sh sz es hl
          rw [hv] at this
          cases this
          exact .inr ⟨v, u1, fun sh' sz' es' _ => hc⟩
        · rename_i hq
          exact .inl (same (by unfold AV.redir; simp only; rw [if_neg hq]))
      · rename_i q i o
        split at h4
        · rename_i hq
          obtain rfl : q = t := by simpa using hq
          subst h4
          obtain ⟨u, u1, u2⟩ := h.slots (.tmp s) _ (old (by simp))
          obtain ⟨g, n, cap, u3, u4⟩ := u2 sh sz es hl
          have u3 : a.tmps[q]? = _ := u3
          rw [hv] at u3
          cases u3
          exact .inr ⟨u, u1, fun sh' sz' es' he => ⟨g, n, cap, hc, by rw [hcell _ _ _ he]; exact u4⟩⟩
        · rename_i hq
          exact .inl (same (by unfold AV.redir; simp only; rw [if_neg hq]))
      · rename_i hn1 hn2
        exact .inl (same (by unfold AV.redir; split <;> first | exact absurd rfl (hn1 _) | exact absurd rfl (hn2 _ _ _) | rfl))

theorem op_store (hok : CfgOk C) (h : RI F I own σ a w) {dst : Option Tmp} {T ty : TypeId} {p x : Operand} (hlk : ∀ k off, σ.rd C 0 p = .var k off → F.lv k = false) {pos : String} {after : Array Edge} {g : Option (Nat × Bool)}
    (hw : (opR C σ dst ty (.store T p x)).wp C K) : Oper.wp C.P ⟨dst, .store T p x, ty, pos, after, g⟩ a w (Post F K) Q := by
  have hchk := chk_ok hw
  clear hw
  obtain ⟨hd, hw⟩ := hchk
  obtain rfl : dst = none := by cases dst <;> first | rfl | cases hd
  have hp := rd_ok h C 0 p
  have hx := rd_ok h C T x
  generalize σ.rd C 0 p = y at hp hw hlk
  generalize σ.rd C T x = z at hx hw
  have fin : ∀ {w2 : World}, (Instr.storeAt T (a.eval p) (a.eval x)).run C.P w = .ok () w2 → Post F K a w2 → Oper.wp C.P ⟨none, .store T p x, ty, pos, after, g⟩ a w (Post F K) Q := by
    intro w2 hr hk
    exact by_skip (w' := w2) (by simp [execOp, hr]) hk
  cases y <;> simp only [storeR] at hw <;> try exact hw.elim
  case var k off =>
    have hlk : F.lv k = false := hlk k off rfl
    have hchk := chk_ok hw
    clear hw
    obtain ⟨hkn, hw⟩ := hchk
    have hfit := hok.fit T hkn
    cases hk : look σ.vars k with
    | none => rw [hk] at hw; exact hw.elim
    | some cs =>
      rw [hk] at hw
      simp only [VA.storeVar] at hw
      obtain ⟨b, hb, hv⟩ := hp cs hk
      obtain ⟨b', hb1, hb2, hb3, hb4⟩ := h.boxes k cs hk
      rw [hb] at hb1
      obtain rfl : b = b' := by cases hb1; rfl
      have hcell : ∀ n, off + n ≤ cs.length → ∀ j, j < n → ∃ x, w.cell? ⟨b, off + j, none⟩ = some x ∧ w.frozen? ⟨b, off + j, none⟩ = false := fun n hn j hj => by
        obtain ⟨v, v1, v2, v3⟩ := hb4 (off + j) (by omega)
        exact ⟨v, v1, v3⟩
      have imm : (R.chk (z.isImm && (decide (z.flat.length = (C.ti T).size) && decide (off + (C.ti T).size ≤ cs.length))) (.ok { σ with vars := ins k (putAt cs off z.flat) σ.vars })).wp C K →
          Oper.wp C.P ⟨none, .store T p x, ty, pos, after, g⟩ a w (Post F K) Q := by
        intro hw
        obtain ⟨h1, h2⟩ := chk_ok hw
        simp only [Bool.and_eq_true, decide_eq_true_eq] at h1
        obtain ⟨h1, h3, h4⟩ := h1
        have har := (rv_imm h1).1 hx
        have hsz : (a.eval x).cells.size = (C.ti T).size := by rw [← har.flen]; exact h3
        obtain ⟨r1, r2⟩ := run_storeAt (P := C.P) hv (fit_sizeOf hfit w) hsz (hcell _ h4) fun v hv => by
          obtain ⟨j, hj⟩ := List.getElem?_of_mem hv
          exact har.one j v (by simpa using hj)
        refine fin r1 ⟨I, own, _, h.setVar hk hb (by simp; rw [hsz, h3]) (by rw [h3]; exact h4) r2 (fun v hv => ?_) (fun j c v hc hv => har.fcell j c v hc (by simpa using hv)) hlk, h2⟩
        obtain ⟨j, hj⟩ := List.getElem?_of_mem hv
        exact har.one j v (by simpa using hj)
      have own2 : ∀ {τ : ASt} {cs' : List AV} {sh sz es}, RI F I own τ a w → look τ.vars k = some cs' → cs'.length = cs.length → Hand F I own τ w sh sz es (a.eval x) → off < cs.length → (C.ti T).size = 1 →
          (∀ own' w2, RI F I own' (ASt.setCell { τ with tmps := VA.strike (AV.leans (.cell k off)) τ.tmps } k off (.own sh sz es)) a w2 → conc a w2 (.cell k off) = some (a.eval x) → Post F K a w2) → Oper.wp C.P ⟨none, .store T p x, ty, pos, after, g⟩ a w (Post F K) Q := by
        intro τ cs' sh sz es hτ hk' hl hh ho h1 hw
        have hone : (a.eval x).cells = #[a.eval x] := by
          rcases hh with ⟨e, _⟩ | ⟨g, cap, e, _⟩ <;> rw [e] <;> rfl
        obtain ⟨r1, r2⟩ := run_storeAt (P := C.P) hv (fit_sizeOf hfit w) (by rw [hone, h1]; rfl) (hcell _ (by omega)) fun v hv => by
          rw [hone] at hv
          rw [List.mem_singleton.1 hv]
          rcases hh with ⟨e, _⟩ | ⟨g, cap, e, _⟩ <;> rw [e] <;> rfl
        rw [hone] at r2
        refine fin r1 ?_
        rw [hone]
        refine hw _ _ (hτ.setVarOwn hk' hb (by omega) r2 hh hlk) ?_
        have e0 := r2.cin 0 (by simp)
        show cellOf _ off a.tmps[k]? = _
        rw [hb]
        exact e0
      have own1 : ∀ {τ : ASt} {cs' : List AV} {sh sz es}, RI F I own τ a w → look τ.vars k = some cs' → cs'.length = cs.length → Hand F I own τ w sh sz es (a.eval x) → off < cs.length → (C.ti T).size = 1 →
          (storeOwn C τ k off sh sz es).wp C K → Oper.wp C.P ⟨none, .store T p x, ty, pos, after, g⟩ a w (Post F K) Q := by
        intro τ cs' sh sz es hτ hk' hl hh ho h1 hw
        have hone : (a.eval x).cells = #[a.eval x] := by
          rcases hh with ⟨e, _⟩ | ⟨g, cap, e, _⟩ <;> rw [e] <;> rfl
        obtain ⟨r1, r2⟩ := run_storeAt (P := C.P) hv (fit_sizeOf hfit w) (by rw [hone, h1]; rfl) (hcell _ (by omega)) fun v hv => by
          rw [hone] at hv
          rw [List.mem_singleton.1 hv]
          rcases hh with ⟨e, _⟩ | ⟨g, cap, e, _⟩ <;> rw [e] <;> rfl
        rw [hone] at r2
        refine fin r1 ?_
        rw [hone]
        exact ⟨I, _, _, hτ.setVarOwn hk' hb (by omega) r2 hh hlk, hw⟩
      cases z with
      | ref l =>
        simp only [VA.storeCells] at hw
        cases hl : σ.at l with
        | none => rw [hl] at hw; exact hw.elim
        | some q =>
          rw [hl] at hw
          cases q <;> simp only [storeRef] at hw <;> try exact hw.elim
          rename_i sh sz es
          have hchk := chk_ok hw
          clear hw
          obtain ⟨h1, hw⟩ := hchk
          simp only [Bool.and_eq_true, decide_eq_true_eq] at h1
          obtain ⟨v, e1, e2, e3⟩ := h.inHand hl
          have hv' : conc a w l = some (a.eval x) := hx sh sz es hl
          rw [e1] at hv'
          cases hv'
          obtain ⟨cs', c1, c2⟩ := drop_vars (l := l) hk
          cases l with
          | tmp t => exact own2 e2 c1 c2 e3 h1.1 h1.2 fun own' w2 h3 h4 => ⟨I, own', _, RI.redir h hl e1 h3 h4 ⟨cs, hk⟩, hw⟩
          | _ => exact own1 e2 c1 c2 e3 h1.1 h1.2 hw
      | own sh sz es =>
        obtain ⟨rfl, rfl, e⟩ := hx
        have hchk := chk_ok hw
        clear hw
        obtain ⟨h1, hw⟩ := hchk
        simp only [Bool.and_eq_true, decide_eq_true_eq] at h1
        exact own1 h hk rfl (.inl ⟨e, rfl⟩) h1.1 h1.2 hw
      | _ => exact imm hw
  case elt y i off =>
    cases y <;> simp only [] at hw <;> try exact hw.elim
    rename_i l
    have hchk := chk_ok hw
    clear hw
    obtain ⟨hkn, hw⟩ := hchk
    have hfit := hok.fit T hkn
    cases hi : σ.imm z with
    | none => rw [hi] at hw; exact hw.elim
    | some q =>
      obtain ⟨v', τ⟩ := q
      rw [hi] at hw
      have hchk := chk_ok hw
      clear hw
      obtain ⟨him, hw⟩ := hchk
      obtain ⟨J, j1, j2, j3⟩ := imm_ok h hx hi
      cases hl : τ.at l with
      | none => rw [hl] at hw; exact hw.elim
      | some q =>
        rw [hl] at hw
        cases q <;> simp only [storeRow] at hw <;> try exact hw.elim
        rename_i sh sz es
        cases sh <;> simp only [] at hw <;> try exact hw.elim
        have hchk := chk_ok hw
        clear hw
        obtain ⟨hpl, hw⟩ := hchk
        have hl0 := imm_at hi hl
        obtain ⟨g0, n0, cap0, hc1, hv⟩ := hp false sz es hl0
        obtain ⟨v0, e1, e2⟩ := j2.slots l _ hl
        rw [hc1] at e1
        cases e1
        rcases e2 with ⟨e, _⟩ | ⟨g1, cap1, e, hg, hrow⟩
        · cases e
        cases e
        cases he : es[i]? with
        | none => rw [he] at hw; exact hw.elim
        | some e =>
          rw [he] at hw
          have hil := (List.getElem?_eq_some_iff.1 he).1
          obtain ⟨u, hu1, hu2, hu3⟩ := hrow.elems i e he
          have hjc : ∀ n, off + n ≤ sz → ∀ j, j < n → ∃ x, w.cell? ⟨g0, i * sz + off + j, none⟩ = some x ∧ w.frozen? ⟨g0, i * sz + off + j, none⟩ = false := fun n hn j hj => by
            have := idx_lt (sz := sz) (j := off + j) (Nat.lt_of_lt_of_le hil hrow.le) (by omega)
            exact hrow.cells _ (by omega)
          have h1c : ∀ v ∈ (a.eval x).cells.toList, v.oneCell' = true := fun v hv => by
            obtain ⟨j, hj⟩ := List.getElem?_of_mem hv
            exact j3.one j v (by simpa using hj)
          have finish : ∀ {e' : AV} {u' : Value}, AR F.mine J e' u' → u'.cells.size = sz → (C.ti T).size = (a.eval x).cells.size → off + (C.ti T).size ≤ sz →
              (∀ (j : Nat) c, u'.cells[j]? = some c → if off ≤ j ∧ j < off + (a.eval x).cells.toList.length then (a.eval x).cells.toList[j - off]? = some c else u.cells[j]? = some c) →
              K (τ.turn l (.own false sz (es.set i e'))) → Oper.wp C.P ⟨none, .store T p x, ty, pos, after, g⟩ a w (Post F K) Q := by
            intro e' u' hu' hs' hsz hoff hcells hk
            obtain ⟨r1, r2⟩ := run_storeAt (P := C.P) hv (fit_sizeOf hfit w) hsz.symm (hjc _ hoff) h1c
            have hlies := hrow.lies.set r2 (by simp; omega) hu3 hu' hs' hcells
            refine fin r1 ⟨J, own, _, j2.turnRow hpl hl hc1 hg (Imm.leRefl J) (fun b o v hb => ?_) (fun b o v hb => .inl hb) r2.only (by simp) ⟨by simp; exact hrow.le, hrow.capm, fun o ho => ?_, hlies, fun e => (by cases e), fun o _ => hrow.immn o fun e => by cases e⟩, hk⟩
            · have hne : b ≠ g0 := fun e => by
                subst e
                rw [hrow.immn o fun e => by cases e] at hb; cases hb
              rw [r2.cell_ne hne o]; exact j2.imm b o v hb
            · obtain ⟨v, v1, v2⟩ := hrow.cells o ho
              rw [r2.frz]
              by_cases e1 : i * sz + off ≤ o ∧ o < i * sz + off + (a.eval x).cells.toList.length
              · have := r2.cin (o - (i * sz + off)) (by omega)
                rw [show i * sz + off + (o - (i * sz + off)) = o by omega] at this
                exact ⟨_, by rw [this]; exact List.getElem?_eq_getElem (by omega), v2⟩
              · exact ⟨v, by rw [r2.cout o (by omega)]; exact v1, v2⟩
          simp only [storePart] at hw
          by_cases hwh : (decide (off = 0) && decide ((C.ti T).size = sz)) = true
          · rw [if_pos hwh] at hw
            have hchk := chk_ok hw
            clear hw
            obtain ⟨h2, hw⟩ := hchk
            simp only [Bool.and_eq_true, decide_eq_true_eq] at hwh h2
            obtain ⟨rfl, hs⟩ := hwh
            have hsz : (a.eval x).cells.size = sz := by rw [← j3.flen, h2, hs]
            refine finish j3 hsz (by rw [hsz]; exact hs) (by rw [hs]; omega) (fun j c hj => ?_) hw
            have hjl := (Array.getElem?_eq_some_iff.1 hj).1
            rw [if_pos ⟨by omega, by simp; omega⟩]
            simpa using hj
          · rw [if_neg hwh] at hw
            cases e <;> simp only [] at hw <;> try exact hw.elim
            rename_i cs
            have hchk := chk_ok hw
            clear hw
            obtain ⟨h2, hw⟩ := hchk
            simp only [Bool.and_eq_true, decide_eq_true_eq] at h2
            obtain ⟨h2, h3⟩ := h2
            have hsz : (a.eval x).cells.size = (C.ti T).size := by rw [← j3.flen, h2]
            cases hu1 with
            | agg _ vs hll h1 hh =>
              have hvs : vs.size = sz := hu2
              -- the new element
              obtain ⟨us, hus1, hus2⟩ : ∃ us : List Value, us.length = vs.size ∧ ∀ j, us[j]? = if off ≤ j ∧ j < off + (a.eval x).cells.size then (a.eval x).cells[j - off]? else vs[j]? := by
                refine ⟨vs.toList.take off ++ (a.eval x).cells.toList ++ vs.toList.drop (off + (a.eval x).cells.size), by simp; omega, fun j => ?_⟩
                have hl1 : (vs.toList.take off).length = off := by simp; omega
                by_cases c1 : j < off
                · rw [if_neg (by omega), List.append_assoc, List.getElem?_append_left (by omega), List.getElem?_take_of_lt c1]; simp
                · by_cases c2 : j < off + (a.eval x).cells.size
                  · rw [if_pos ⟨by omega, c2⟩, List.append_assoc, List.getElem?_append_right (by omega), hl1, List.getElem?_append_left (by simp; omega)]; simp
                  · rw [if_neg (by omega), List.getElem?_append_right (by simp [hl1]; omega), List.getElem?_drop]
                    simp only [List.length_append, hl1, Array.length_toList, Array.getElem?_toList]
                    congr 1; omega
              have hpl2 := putAt_length cs v'.flat off (by rw [h2]; exact h3)
              refine finish (u' := .agg us.toArray) (AR.agg _ _ (by rw [hpl2, hll]; simp [hus1]) (fun j v hj => ?_) fun j c v hc hv' => ?_) (by simp [Value.cells, hus1, hvs]) hsz.symm (by omega) (fun j c hj => ?_) hw
              · rw [List.getElem?_toArray, hus2] at hj
                split at hj
                · exact j3.one _ _ hj
                · exact h1 j v hj
              · rw [List.getElem?_toArray, hus2] at hv'
                rw [putAt_get cs v'.flat off j (by rw [h2]; exact h3), h2] at hc
                rw [hsz] at hv'
                by_cases c1 : off ≤ j ∧ j < off + (C.ti T).size
                · rw [if_pos c1] at hc hv'
                  exact j3.fcell _ _ _ hc hv'
                · rw [if_neg c1] at hc hv'
                  exact (hh j c v hc hv').mono (fun _ h => h) (Imm.leRefl J)
              · simp only [Value.cells] at hj
                rw [List.getElem?_toArray, hus2] at hj
                simp only [Array.length_toList]
                split at hj
                · rename_i c1
                  rw [if_pos c1]; simpa using hj
                · rename_i c1
                  rw [if_neg c1]; exact hj

end
end Go.Proofs.Ytjfnmlheehbojaa.VA
