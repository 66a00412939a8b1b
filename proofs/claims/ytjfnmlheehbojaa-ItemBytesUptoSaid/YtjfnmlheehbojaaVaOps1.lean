/- Operations on temporaries, variables and elements. -/
import Derived.Test.YtjfnmlheehbojaaVaOps
namespace Go.Proofs.Ytjfnmlheehbojaa.VA
section
variable {F : Fx} {I : Imm} {own : Nat → Option Loc} {σ : ASt} {a : Act} {w w' : World} {C : Cfg} {K : ASt → Prop} {Q : Exit → Act → World → Prop}

theorem by_value {P : Program} {o : Oper} {next : Act → World → Prop} {v : Value} (hr : (execOp a.eval o).run P w = .ok (.value v) w') (hp : next (a.put o.dst v) w') : o.wp P a w next Q := by
  unfold Oper.wp; rw [hr]; exact hp
/-- A world that comes later: what never changes is there, what is locked stays. -/
def Later (F : Fx) (I : Imm) (w2 : World) : Prop := Imm.ok I w2 ∧ ∀ b, F.lk b → w2.heap[b]? = F.w0.heap[b]?
/-- An operation that yields its value in every later world. -/
def Quiet (F : Fx) (I : Imm) (P : Program) (o : Oper) (a : Act) (w : World) (next : Act → World → Prop) : Prop :=
  ∃ v, (∀ w2, Later F I w2 → (execOp a.eval o).run P w2 = .ok (.value v) w2) ∧ next (a.put o.dst v) w
theorem by_q {P : Program} {o : Oper} {next : Act → World → Prop} {v : Value} (hr : ∀ w2, Later F I w2 → (execOp a.eval o).run P w2 = .ok (.value v) w2) (hp : next (a.put o.dst v) w) : Quiet F I P o a w next := ⟨v, hr, hp⟩
theorem quiet_wp (h : RI F I own σ a w) {P : Program} {o : Oper} {next : Act → World → Prop} (hq : Quiet F I P o a w next) : o.wp P a w next Q := by
  obtain ⟨v, hr, hp⟩ := hq
  exact by_value (hr w ⟨h.imm, fun b hb => (h.lk.stay b hb).1⟩) hp
theorem by_skip {P : Program} {o : Oper} {next : Act → World → Prop} (hr : (execOp a.eval o).run P w = .ok .skip w') (hp : next (a.put o.dst undef) w') : o.wp P a w next Q := by
  unfold Oper.wp; rw [hr]; exact hp

theorem take_ok (hC : F.C = C) (h : RI F I own σ a w) {d : Option Nat} {l : Loc} {v : Value} (hw : (σ.take C d l).wp C K) (hx : RV F I own σ a w (.ref l) v) : Post F K (a.put d v) w := by
  unfold ASt.take at hw
  cases hl : σ.at l with
  | none => rw [hl] at hw; exact hw.elim
  | some q =>
    rw [hl] at hw
    cases q <;> simp only [ASt.takeO] at hw <;> try exact hw.elim
    rename_i sh sz es
    obtain ⟨u, h1, h2, h3⟩ := h.inHand hl
    have hv : conc a w l = some v := hx sh sz es hl
    rw [h1] at hv
    cases hv
    exact wr_own hC h2 hw h3

theorem op_assign (hC : F.C = C) (h : RI F I own σ a w) {P : Program} {dst : Option Tmp} {x : Operand} {ty : TypeId} {pos : String} {after : Array Edge} {g : Option (Nat × Bool)}
    (hw : (opR C σ dst ty (.assign x)).wp C K) : Quiet F I P ⟨dst, .assign x, ty, pos, after, g⟩ a w (Post F K) := by
  refine by_q (v := a.eval x) (fun w2 hl2 => rfl) ?_
  have hx := rd_ok h C ty x
  simp only [opR] at hw
  generalize σ.rd C ty x = y at hx hw
  cases y with
  | ref l => exact take_ok hC h hw hx
  | _ => exact wr_rv hC h hw hx

theorem ar_bool {M : Nat → Prop} {b : Bool} {v : Value} (h : AR M I (.bool b) v) : v = .bool b := by cases h; rfl
theorem ar_int {M : Nat → Prop} {k : IntKind} {n : Int} {v : Value} (h : AR M I (.int k n) v) : v = .int k n := by cases h; rfl
theorem ar_str {M : Nat → Prop} {s : List UInt8} {v : Value} (h : AR M I (.str s) v) : v = .string ⟨s.toArray⟩ := by cases h; rfl

theorem op_pick (hC : F.C = C) (h : RI F I own σ a w) {P : Program} {dst : Option Tmp} {c x y : Operand} {ty : TypeId} {pos : String} {after : Array Edge} {g : Option (Nat × Bool)}
    (hw : (opR C σ dst ty (.pick c x y)).wp C K) : Quiet F I P ⟨dst, .pick c x y, ty, pos, after, g⟩ a w (Post F K) := by
  have hc := rd_ok h C ty c
  simp only [opR] at hw
  generalize σ.rd C ty c = q at hc hw
  cases q <;> simp only [pickR] at hw <;> try exact hw.elim
  rename_i t
  have hv := ar_bool ((rv_imm rfl).1 hc)
  obtain ⟨h1, h2⟩ := hw
  cases t with
  | true => exact by_q (v := a.eval x) (fun w2 hl2 => by simp [execOp, hv, asBool]) (wr_rv hC h (h1 rfl) (rd_ok h C ty x))
  | false => exact by_q (v := a.eval y) (fun w2 hl2 => by simp [execOp, hv, asBool]) (wr_rv hC h (h2 rfl) (rd_ok h C ty y))

theorem op_alloc (hC : F.C = C) (hok : CfgOk C) (h : RI F I own σ a w) {dst : Option Tmp} (hlk : ∀ d, dst = some d → F.lv d = false) {T ty : TypeId} {pos : String} {after : Array Edge} {g : Option (Nat × Bool)}
    (hw : (opR C σ dst ty (.alloc T)).wp C K) : Oper.wp C.P ⟨dst, .alloc T, ty, pos, after, g⟩ a w (Post F K) Q := by
  cases dst with
  | none => exact hw.elim
  | some d =>
    obtain ⟨h1, h2⟩ := chk_ok hw
    simp only [Bool.and_eq_true] at h1
    obtain ⟨i, z, e1, e2, e3, e4, e5, e6, e7, e8⟩ := (hok.fit T h1.2).info
    refine by_value (v := .pointer (some ⟨w.heap.size, 0, none⟩)) (w' := w.alloc (.cells z.cells T)) (by simp [execOp, Instr.alloc, zeroValue, typeInfo, e1, e3, newVar, newRow]) ?_
    refine ⟨I, _, _, h.newVar (by rw [hC]; exact h1.1) (by rw [e4, e5]) (fun j v hv => ?_) (fun j x v hx hv => ?_) (hlk d rfl), h2⟩
    · cases hk : (C.ti T).kind.isAgg with
      | true =>
        have hjl : j < (C.ti T).zero.length := by rw [e5, ← e4]; exact (Array.getElem?_eq_some_iff.1 hv).1
        have := e6 j _ v (List.getElem?_eq_getElem hjl) hv
        generalize (C.ti T).zero[j] = x at this
        cases x <;> simp only [zeroIs] at this <;> first | exact this.elim | (subst this; rfl) | (rw [this.2]; rfl)
      | false =>
        rw [cells_one (e8 hk).2] at hv
        obtain ⟨_, rfl⟩ := get_one hv
        exact (e8 hk).2
    · have := e6 j x v hx hv
      cases x <;> simp only [zeroIs] at this
      case int k n => subst this; exact .inl (.int k n)
      case bool b => subst this; exact .inl (.bool b)
      case str s => subst this; exact .inl (.str s)
      case nilf => subst this; exact .inl .nilf
      case own sh sz es => obtain ⟨rfl, rfl⟩ := this; exact .inr ⟨sh, sz, rfl, rfl⟩

theorem op_box (hC : F.C = C) (h : RI F I own σ a w) {P : Program} {dst : Option Tmp} (hlk : ∀ d, dst = some d → F.lv d = false) {T ty : TypeId} {x : Operand} {pos : String} {after : Array Edge} {g : Option (Nat × Bool)}
    (hw : (opR C σ dst ty (.box T x)).wp C K) : Oper.wp P ⟨dst, .box T x, ty, pos, after, g⟩ a w (Post F K) Q := by
  have hx := rd_ok h C T x
  simp only [opR] at hw
  cases hi : σ.imm (σ.rd C T x) with
  | none => rw [hi] at hw; cases dst <;> exact hw.elim
  | some q =>
    obtain ⟨y, τ⟩ := q
    rw [hi] at hw
    cases dst with
    | none => exact hw.elim
    | some d =>
      obtain ⟨h1, h2⟩ := chk_ok hw
      obtain ⟨J, j1, j2, j3⟩ := imm_ok h hx hi
      refine by_value (v := .pointer (some ⟨w.heap.size, 0, none⟩)) (w' := w.alloc (.cells (a.eval x).cells T)) (by simp [execOp, Instr.box, Go.newVar, newRow]) ?_
      exact ⟨J, _, _, j2.newVar (by rw [hC]; exact h1) j3.flen j3.one (fun j x v hx hv => .inl (j3.fcell j x v hx hv)) (hlk d rfl), h2⟩

theorem loadVar_agg {P : Program} {T : TypeId} {n : Nat} {p : Addr} (hk : (isAgg T).run P w = .ok true w) (hs : (sizeOf T).run P w = .ok n w) (cs : List Value) (hl : cs.length = n)
    (hc : ∀ (j : Nat) v, cs[j]? = some v → w.cell? (p.add j) = some v) : (Go.loadVar T p).run P w = .ok (.agg cs.toArray) w := by
  subst hl
  simp [Go.loadVar, hk, hs, run_loadCells_list w p cs hc]
theorem loadVar_one {P : Program} {T : TypeId} {p : Addr} (hk : (isAgg T).run P w = .ok false w) {v : Value} (hc : w.cell? p = some v) : (Go.loadVar T p).run P w = .ok v w := by
  simp [Go.loadVar, hk, hc]

theorem wrImm_ok (hC : F.C = C) (h : RI F I own σ a w) {d : Option Nat} {x : Option AV} {v : Value} (hw : (wrImm C σ d x).wp C K) (hx : ∀ y, x = some y → AR F.mine I y v) : Post F K (a.put d v) w := by
  cases x with
  | none => exact hw.elim
  | some y =>
    obtain ⟨h1, h2⟩ := chk_ok hw
    have := hx y rfl
    exact wr_rv hC h h2 ((rv_imm h1).2 this)

theorem markFrom_get (cs : List AV) (off n j : Nat) (h : off + n ≤ cs.length) : (markFrom cs off n)[j]? = if off ≤ j ∧ j < off + n then (cs[j]?).map AV.mark else cs[j]? := by
  unfold markFrom
  have hl : (cs.take off).length = off := by simp; omega
  have hl2 : (((cs.drop off).take n).map AV.mark).length = n := by simp; omega
  by_cases h1 : j < off
  · rw [if_neg (by omega), List.append_assoc, List.getElem?_append_left (by omega), List.getElem?_take_of_lt h1]
  · by_cases h2 : j < off + n
    · rw [if_pos ⟨by omega, h2⟩, List.append_assoc, List.getElem?_append_right (by omega), hl, List.getElem?_append_left (by omega), List.getElem?_map, List.getElem?_take_of_lt (by omega), List.getElem?_drop]
      congr 2; omega
    · rw [if_neg (by omega), List.getElem?_append_right (by simp [hl]; omega), List.getElem?_drop]
      congr 1
      simp [hl]; omega

/-- The cells of a variable are marked one by one. -/
theorem markCells (h : RI F I own σ a w) {k : Nat} {cs : List AV} (hk : look σ.vars k = some cs) (off : Nat) : ∀ n, off + n ≤ cs.length →
    ∃ J, Imm.le I J ∧ RI F J own { σ with vars := ins k (markFrom cs off n) σ.vars } a w
  | 0, h0 => by
    refine ⟨I, Imm.leRefl I, h.weaken (fun l x hx => ⟨x, ?_, .inl rfl⟩) (fun k' cs' hk' => ?_)⟩
    · cases l with
      | cell k' j =>
        simp only [ASt.at, look_ins] at hx ⊢
        by_cases e : k' = k
        · subst e
          simp only [if_true, cellAt, markFrom_get cs off 0 j h0, hk] at hx ⊢
          rw [if_neg (by omega)] at hx; exact hx
        · simp only [e, if_false] at hx; exact hx
      | _ => exact hx
    · rw [look_ins] at hk'
      by_cases e : k' = k
      · subst e
        simp only [if_true, Option.some.injEq] at hk'
        subst hk'
        exact ⟨cs, hk, by simp [markFrom]⟩
      · simp only [e, if_false] at hk'; exact ⟨cs', hk', rfl⟩
  | n + 1, hn => by
    obtain ⟨J, j1, j2⟩ := markCells h hk off n (by omega)
    have hlen : ∀ n, off + n ≤ cs.length → (markFrom cs off n).length = cs.length := fun n hn => by simp [markFrom]; omega
    have hkn : look (ASt.vars { σ with vars := ins k (markFrom cs off n) σ.vars }) k = some (markFrom cs off n) := by simp [look_ins]
    have hcj : (markFrom cs off n)[off + n]? = cs[off + n]? := by rw [markFrom_get cs off n _ (by omega), if_neg (by omega)]
    have same : ∀ {J : Imm} {τ : ASt}, RI F J own τ a w → (∀ l x, ASt.at { σ with vars := ins k (markFrom cs off (n + 1)) σ.vars } l = some x → τ.at l = some x) →
        (∀ k' cs', look (ins k (markFrom cs off (n + 1)) σ.vars) k' = some cs' → ∃ cs0, look τ.vars k' = some cs0 ∧ cs0.length = cs'.length) →
        RI F J own { σ with vars := ins k (markFrom cs off (n + 1)) σ.vars } a w := fun hJ h1 h2 => hJ.weaken (fun l x hx => ⟨x, h1 l x hx, .inl rfl⟩) h2
    have hlt : off + n < cs.length := by omega
    have hget := List.getElem?_eq_getElem hlt
    by_cases ho : ∃ sh sz es, cs[off + n]? = some (.own sh sz es)
    · obtain ⟨sh, sz, es, ho⟩ := ho
      have hl : ASt.at { σ with vars := ins k (markFrom cs off n) σ.vars } (.cell k (off + n)) = some (.own sh sz es) := by
        simp only [ASt.at, hkn, cellAt, hcj]; exact ho
      obtain ⟨J2, v, _, k2, k3, _⟩ := j2.mark rfl hl
      have hturn : ∀ l, (ASt.turn { σ with vars := ins k (markFrom cs off n) σ.vars } (.cell k (off + n)) (.own true sz es)).at l = if l = .cell k (off + n) then some (.own true sz es) else ASt.at { σ with vars := ins k (markFrom cs off n) σ.vars } l :=
        at_turn rfl hl
      refine ⟨J2, j1.trans k2, same k3 (fun l x hx => ?_) (fun k' cs' hk' => ?_)⟩
      · rw [hturn l]
        cases l with
        | cell k' j =>
          simp only [ASt.at, look_ins] at hx ⊢
          by_cases e : k' = k
          · subst e
            simp only [if_true, cellAt, markFrom_get cs off (n + 1) j hn, markFrom_get cs off n j (by omega)] at hx ⊢
            by_cases e2 : j = off + n
            · subst e2
              rw [if_pos (by omega), ho] at hx
              rw [if_pos rfl]
              exact hx
            · rw [if_neg (fun e3 => e2 (by cases e3; rfl))]
              by_cases e3 : off ≤ j ∧ j < off + n
              · rw [if_pos e3]; rw [if_pos (by omega)] at hx; exact hx
              · rw [if_neg e3]; rw [if_neg (by omega)] at hx; exact hx
          · simp only [e, if_false] at hx ⊢
            rw [if_neg (fun e3 => e (by cases e3; rfl))]; exact hx
        | tmp t => rw [if_neg (fun e => by cases e)]; exact hx
        | comp t j => rw [if_neg (fun e => by cases e)]; exact hx
        | box k => cases hx
      · simp only [ASt.turn, ASt.setCell, hkn, ASt.setCellO, look_ins] at hk' ⊢
        by_cases e : k' = k
        · subst e
          simp only [if_true, Option.some.injEq] at hk' ⊢
          subst hk'
          exact ⟨_, rfl, by rw [List.length_set, hlen n (by omega), hlen (n + 1) hn]⟩
        · simp only [e, if_false] at hk' ⊢; exact ⟨cs', hk', rfl⟩
    · have hmk : ∀ x, cs[off + n]? = some x → x.mark = x := by
        intro x hx
        cases x <;> first | rfl | exact absurd ⟨_, _, _, hx⟩ ho
      refine ⟨J, j1, same j2 (fun l x hx => ?_) (fun k' cs' hk' => ?_)⟩
      · cases l with
        | cell k' j =>
          simp only [ASt.at, look_ins] at hx ⊢
          by_cases e : k' = k
          · subst e
            simp only [if_true, cellAt, markFrom_get cs off (n + 1) j hn, markFrom_get cs off n j (by omega)] at hx ⊢
            by_cases e2 : j = off + n
            · subst e2
              rw [if_pos (by omega), hget] at hx
              rw [if_neg (by omega), hget]
              simp only [Option.map_some, hmk _ hget] at hx
              exact hx
            · by_cases e3 : off ≤ j ∧ j < off + n
              · rw [if_pos e3]; rw [if_pos (by omega)] at hx; exact hx
              · rw [if_neg e3]; rw [if_neg (by omega)] at hx; exact hx
          · simp only [e, if_false] at hx ⊢; exact hx
        | _ => exact hx
      · simp only [look_ins] at hk' ⊢
        by_cases e : k' = k
        · subst e
          simp only [if_true, Option.some.injEq] at hk' ⊢
          subst hk'
          exact ⟨_, rfl, by rw [hlen n (by omega), hlen (n + 1) hn]⟩
        · simp only [e, if_false] at hk' ⊢; exact ⟨cs', hk', rfl⟩

theorem frz_ar {k j : Nat} (h : RI F I own σ a w) {x : AV} {v : Value} (hr : SRep F I own σ a w (.cell k j) x v) (hx : x.mark = x) (hf : x.frz.isImm = true) : AR F.mine I x.frz v := by
  cases x with
  | own sh sz es =>
    simp only [AV.mark, AV.own.injEq, and_true] at hx
    subst hx
    rcases hr with ⟨rfl, rfl⟩ | ⟨g, cap, rfl, hg, hrow⟩
    · exact .slnil true sz none 0
    · exact hrow.toSl (h.mine g _ hg).1
  | bot => cases hf
  | undef => cases hf
  | tup => cases hf
  | ref => cases hf
  | var => cases hf
  | elt => cases hf
  | _ => exact hr

end
end Go.Proofs.Ytjfnmlheehbojaa.VA
