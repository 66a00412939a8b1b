/- A call's begin and end: a contract out of the abstract run of a body. -/
import Derived.Test.YtjfnmlheehbojaaVaCode2
namespace Go.Proofs.Ytjfnmlheehbojaa.VA

/-- What a result may be told as. -/
inductive Fin : AV → AV → Prop
  | dull {x y : AV} : Dull x y → Fin x y
  | froz {sh : Bool} {sz : Nat} {es : List AV} {y : AV} : Dull (.sl true sz es) y → Fin (.own sh sz es) y
  | mark (sh : Bool) (sz : Nat) (es : List AV) : Fin (.own sh sz es) (.own true sz es)
  | nil (sh sh' : Bool) (sz sz' : Nat) (h : sh = true → sh' = true) : sz = sz' → Fin (.own sh sz []) (.own sh' sz' [])
inductive Fins : List AV → List AV → Prop
  | nil : Fins [] []
  | cons {x y : AV} {xs ys : List AV} : Fin x y → Fins xs ys → Fins (x :: xs) (y :: ys)
inductive FinR : AV → AV → Prop
  | one {x y : AV} : (∀ vs, x ≠ .tup vs) → (∀ vs, y ≠ .tup vs) → Fin x y → FinR x y
  | tup {xs ys : List AV} : Fins xs ys → FinR (.tup xs) (.tup ys)
def ResFin : Option AV → AV → Prop
  | some r, res => FinR r res
  | none, _ => False
def BodyPost (C : Cfg) (rs : List ResultVar) (res : AV) : AEx → ASt → Prop
  | .exit _, _ => False
  | _, σ => ResFin (resOf C σ rs) res
def rkey : ResultVar → Nat
  | .tmp t => t
  | .cell t _ => t

section
variable {F : Fx} {I : Imm} {own : Nat → Option Loc} {σ : ASt} {a : Act} {w w' : World} {C : Cfg} {K : ASt → Prop}

theorem AR.dullM {M : Nat → Prop} {x y : AV} (hd : Dull x y) : ∀ {v : Value}, AR M I x v → AR M I y v := by
  induction hd with
  | refl a => exact fun h => h
  | agg xs ys hl _ ih =>
    intro v h
    cases h with
    | agg _ vs hl' h1 h =>
      refine .agg ys vs (hl.symm.trans hl') h1 fun j y u hy hu => ?_
      have hj : j < xs.length := by
        have := (List.getElem?_eq_some_iff.1 hy).1; omega
      exact ih j xs[j] y (List.getElem?_eq_getElem hj) hy (h j _ u (List.getElem?_eq_getElem hj) hu)
  | nil fr sz =>
    intro v h
    cases h with
    | ext _ K _ _ _ hp =>
      have hp : v = .slice none 0 0 := hp
      subst hp
      exact .slnil fr sz none 0
  | sl fr sz xs ys hl _ ih =>
    intro v h
    cases h with
    | slnil =>
      obtain rfl : ys = [] := List.eq_nil_of_length_eq_zero hl.symm
      exact .slnil false sz _ _
    | sl _ _ _ b o n cap hn hc vs hv hz hI =>
      refine .sl false sz ys b o n cap (hn.trans hl) hc vs (fun i y hy => ?_) (fun i hi => hz i (by omega)) (fun i j c hi hj => hI i j c (by omega) hj)
      have hj : i < xs.length := by
        have := (List.getElem?_eq_some_iff.1 hy).1; omega
      exact ih i xs[i] y (List.getElem?_eq_getElem hj) hy (hv i _ (List.getElem?_eq_getElem hj))

/-- Results turned into what they are told as. -/
theorem fin_ok {M : Nat → Prop} (hI : Imm.ok I w) {x y : AV} {v : Value} {gs : List Nat} (hM : ∀ g, g ∈ gs → M g) (h : VRep M I w x v gs) (hf : Fin x y) :
    ∃ J gs', Imm.le I J ∧ Imm.ok J w ∧ (∀ b, b ∉ gs → ∀ o, J b o = I b o) ∧ VRep M J w y v gs' ∧ ∀ g, g ∈ gs' → g ∈ gs ∧ gs' = [g] := by
  have same : VRep M I w y v gs → ∃ J gs', Imm.le I J ∧ Imm.ok J w ∧ (∀ b, b ∉ gs → ∀ o, J b o = I b o) ∧ VRep M J w y v gs' ∧ ∀ g, g ∈ gs' → g ∈ gs ∧ gs' = [g] := by
    intro h2
    refine ⟨I, gs, Imm.leRefl I, hI, fun _ _ _ => rfl, h2, fun g hg => ⟨hg, ?_⟩⟩
    rcases vrep_cases h2 with ⟨_, _, _, _, rfl⟩ | ⟨_, _, _, g', _, _, _, rfl, _⟩ | ⟨_, _, rfl⟩
    · cases hg
    · rw [List.mem_singleton] at hg; rw [hg]
    · cases hg
  cases hf with
  | dull hd =>
    rcases vrep_cases h with ⟨sh, sz, rfl, rfl, rfl⟩ | ⟨sh, sz, es, g, cap, rfl, rfl, rfl, hlt, hr⟩ | ⟨hi, ha, rfl⟩
    · cases hd; exact same h
    · cases hd; exact same h
    · exact same (vrep_imm (ha.dullM hd))
  | froz hd =>
    rename_i sh sz es
    rcases vrep_cases h with ⟨_, _, e, rfl, rfl⟩ | ⟨_, _, _, g, cap, e, rfl, rfl, hlt, hr⟩ | ⟨hi, ha, rfl⟩
    · cases e
      exact ⟨I, [], Imm.leRefl I, hI, fun _ _ _ => rfl, vrep_imm ((AR.slnil true sz none 0).dullM hd), fun g hg => by cases hg⟩
    · cases e
      refine ⟨I.with w g (es.length * sz), [], Imm.with_le hI, Imm.with_ok hI, fun b hb o => Imm.with_ne (fun e => hb (by simp [e])) o, vrep_imm (((hr.share hI).toSl (hM g (by simp))).dullM hd), fun g hg => by cases hg⟩
    · cases hi
  | mark sh sz es =>
    rcases vrep_cases h with ⟨_, _, e, rfl, rfl⟩ | ⟨_, _, _, g, cap, e, rfl, rfl, hlt, hr⟩ | ⟨hi, ha, rfl⟩
    · cases e
      exact same (vrep_nil _ _)
    · cases e
      exact ⟨I.with w g (es.length * sz), [g], Imm.with_le hI, Imm.with_ok hI, fun b hb o => Imm.with_ne (fun e => hb (by simp [e])) o, vrep_row hlt (hr.share hI), fun g' hg => by
        rw [List.mem_singleton] at hg; subst hg; exact ⟨by simp, rfl⟩⟩
    · cases hi
  | nil sh sh' sz sz' hs hz =>
    subst hz
    rcases vrep_cases h with ⟨_, _, e, rfl, rfl⟩ | ⟨_, _, _, g, cap, e, rfl, rfl, hlt, hr⟩ | ⟨hi, ha, rfl⟩
    · exact same (vrep_nil _ _)
    · cases e
      refine same (vrep_row hlt ⟨hr.le, hr.capm, hr.cells, hr.elems, fun _ o v ho _ => by simp at ho, fun o _ => hr.immn o fun _ => by simp⟩)
    · cases hi

theorem fins_ok {M : Nat → Prop} : ∀ (xs ys : List AV) (vs : List Value) (gs : List Nat) (I : Imm), Imm.ok I w → (∀ g, g ∈ gs → M g) → gs.Nodup → VReps M I w xs vs gs → Fins xs ys →
    ∃ J gs', Imm.le I J ∧ Imm.ok J w ∧ (∀ b, b ∉ gs → ∀ o, J b o = I b o) ∧ VReps M J w ys vs gs' ∧ gs'.Nodup ∧ ∀ g, g ∈ gs' → g ∈ gs
  | [], _, [], gs, I, hI, hM, hn, h, hf => by
    cases hf
    exact ⟨I, gs, Imm.leRefl I, hI, fun _ _ _ => rfl, h, hn, fun _ h => h⟩
  | x :: xs, _, v :: vs, gs, I, hI, hM, hn, h, hf => by
    cases hf with
    | cons f1 f2 =>
      rename_i y ys
      obtain ⟨g1, g2, rfl, h1, h2⟩ := h
      have hn' := List.nodup_append.1 hn
      obtain ⟨J1, g1', a1, a2, a3, a4, a5⟩ := fin_ok hI (fun g hg => hM g (List.mem_append_left _ hg)) h1 f1
      have hdis : ∀ g, g ∈ g2 → g ∉ g1 := fun g hg hg' => hn'.2.2 g hg' g hg rfl
      have h2' := VReps.keep (fun _ h => h) a1 xs vs g2 h2 fun g hg => a3 g (hdis g hg)
      obtain ⟨J2, g2', b1, b2, b3, b4, b5, b6⟩ := fins_ok xs ys vs g2 J1 a2 (fun g hg => hM g (List.mem_append_right _ hg)) hn'.2.1 h2' f2
      have hdis1 : ∀ g, g ∈ g1' → g ∉ g2 := fun g hg hg' => hdis g hg' (a5 g hg).1
      refine ⟨J2, g1' ++ g2', a1.trans b1, b2, fun b hb o => ?_, ⟨g1', g2', rfl, a4.keep (fun _ h => h) b1 fun g hg => b3 g (hdis1 g hg), b4⟩, ?_, fun g hg => ?_⟩
      · rw [b3 b (fun e => hb (List.mem_append_right _ e)) o, a3 b (fun e => hb (List.mem_append_left _ e)) o]
      · rw [List.nodup_append]
        refine ⟨?_, b5, fun p hp q hq e => hdis1 p hp (by rw [e]; exact b6 q hq)⟩
        cases g1' with
        | nil => exact List.nodup_nil
        | cons g r => rw [(a5 g (by simp)).2]; simp
      · rcases List.mem_append.1 hg with e | e
        · exact List.mem_append_left _ (a5 g e).1
        · exact List.mem_append_right _ (b6 g e)
  | [], _, _ :: _, gs, I, hI, hM, hn, h, hf => h.elim
  | _ :: _, _, [], gs, I, hI, hM, hn, h, hf => h.elim

/-- The cells of a variable are marked one by one; who stands in no cell keeps his own. -/
theorem markCellsMore (h : RI F I own σ a w) {k : Nat} {cs : List AV} (hk : look σ.vars k = some cs) : ∀ n, n ≤ cs.length →
    ∃ J, Imm.le I J ∧ RI F J own { σ with vars := ins k (markFrom cs 0 n) σ.vars } a w ∧ ∀ b, (∀ k j, own b ≠ some (.cell k j)) → ∀ o, J b o = I b o
  | 0, _ => by
    refine ⟨I, Imm.leRefl I, h.weaken (fun l x hx => ⟨x, ?_, .inl rfl⟩) (fun k' cs' hk' => ?_), fun _ _ _ => rfl⟩
    · cases l with
      | cell k' j =>
        simp only [ASt.at, look_ins] at hx ⊢
        by_cases e : k' = k
        · subst e
          simp only [if_true, cellAt, markFrom_get cs 0 0 j (by omega), hk] at hx ⊢
          rw [if_neg (by omega)] at hx; exact hx
        · simp only [e, if_false] at hx; exact hx
      | _ => exact hx
    · simp only [look_ins] at hk'
      by_cases e : k' = k
      · subst e
        simp only [if_true, Option.some.injEq] at hk'
        subst hk'
        exact ⟨cs, hk, by simp [markFrom]⟩
      · simp only [e, if_false] at hk'; exact ⟨cs', hk', rfl⟩
  | n + 1, hn => by
    obtain ⟨J, j1, j2, j3⟩ := markCellsMore h hk n (by omega)
    have hlen : ∀ n, n ≤ cs.length → (markFrom cs 0 n).length = cs.length := fun n hn => by simp [markFrom]; omega
    have hkn : look (ASt.vars { σ with vars := ins k (markFrom cs 0 n) σ.vars }) k = some (markFrom cs 0 n) := by simp [look_ins]
    have hcj : (markFrom cs 0 n)[n]? = cs[n]? := by rw [markFrom_get cs 0 n _ (by omega), if_neg (by omega)]
    have same : ∀ {J : Imm} {τ : ASt}, RI F J own τ a w → (∀ l x, ASt.at { σ with vars := ins k (markFrom cs 0 (n + 1)) σ.vars } l = some x → τ.at l = some x) →
        (∀ k' cs', look (ins k (markFrom cs 0 (n + 1)) σ.vars) k' = some cs' → ∃ cs0, look τ.vars k' = some cs0 ∧ cs0.length = cs'.length) →
        RI F J own { σ with vars := ins k (markFrom cs 0 (n + 1)) σ.vars } a w := fun hJ h1 h2 => hJ.weaken (fun l x hx => ⟨x, h1 l x hx, .inl rfl⟩) h2
    have hlt : n < cs.length := by omega
    have hget := List.getElem?_eq_getElem hlt
    by_cases ho : ∃ sh sz es, cs[n]? = some (.own sh sz es)
    · obtain ⟨sh, sz, es, ho⟩ := ho
      have hl : ASt.at { σ with vars := ins k (markFrom cs 0 n) σ.vars } (.cell k n) = some (.own sh sz es) := by
        simp only [ASt.at, hkn, cellAt, hcj]; exact ho
      obtain ⟨J2, v, _, k2, k3, _, k5⟩ := j2.markMore rfl hl
      have hturn : ∀ l, (ASt.turn { σ with vars := ins k (markFrom cs 0 n) σ.vars } (.cell k n) (.own true sz es)).at l = if l = .cell k n then some (.own true sz es) else ASt.at { σ with vars := ins k (markFrom cs 0 n) σ.vars } l :=
        at_turn rfl hl
      refine ⟨J2, j1.trans k2, same k3 (fun l x hx => ?_) (fun k' cs' hk' => ?_), fun b hb o => by rw [k5 b (hb k n) o, j3 b hb o]⟩
      · rw [hturn l]
        cases l with
        | cell k' j =>
          simp only [ASt.at, look_ins] at hx ⊢
          by_cases e : k' = k
          · subst e
            simp only [if_true, cellAt, markFrom_get cs 0 (n + 1) j (by omega), markFrom_get cs 0 n j (by omega)] at hx ⊢
            by_cases e2 : j = n
            · subst e2
              rw [if_pos (by omega), ho] at hx
              rw [if_pos rfl]
              exact hx
            · rw [if_neg (fun e3 => e2 (by cases e3; rfl))]
              by_cases e3 : 0 ≤ j ∧ j < 0 + n
              · rw [if_pos e3]; rw [if_pos (by omega)] at hx; exact hx
              · rw [if_neg e3]; rw [if_neg (by omega)] at hx; exact hx
          · simp only [e, if_false] at hx ⊢
            rw [if_neg (fun e3 => e (by cases e3; rfl))]; exact hx
        | tmp t => rw [if_neg (fun e => by cases e)]; exact hx
        | comp t j => rw [if_neg (fun e => by cases e)]; exact hx
        | box k => cases hx
      · simp only [ASt.turn, ASt.setCell, hkn, ASt.setCellO, look_ins] at hk' ⊢
        by_cases e : k' = k
        · subst e
          simp only [if_true, Option.some.injEq] at hk' ⊢
          subst hk'
          exact ⟨_, rfl, by rw [List.length_set, hlen n (by omega), hlen (n + 1) hn]⟩
        · simp only [e, if_false] at hk' ⊢; exact ⟨cs', hk', rfl⟩
    · have hmk : ∀ x, cs[n]? = some x → x.mark = x := by
        intro x hx
        cases x <;> first | rfl | exact absurd ⟨_, _, _, hx⟩ ho
      refine ⟨J, j1, same j2 (fun l x hx => ?_) (fun k' cs' hk' => ?_), j3⟩
      · cases l with
        | cell k' j =>
          simp only [ASt.at, look_ins] at hx ⊢
          by_cases e : k' = k
          · subst e
            simp only [if_true, cellAt, markFrom_get cs 0 (n + 1) j (by omega), markFrom_get cs 0 n j (by omega)] at hx ⊢
            by_cases e2 : j = n
            · subst e2
              rw [if_pos (by omega), hget] at hx
              rw [if_neg (by omega), hget]
              simp only [Option.map_some, hmk _ hget] at hx
              exact hx
            · by_cases e3 : 0 ≤ j ∧ j < 0 + n
              · rw [if_pos e3]; rw [if_pos (by omega)] at hx; exact hx
              · rw [if_neg e3]; rw [if_neg (by omega)] at hx; exact hx
          · simp only [e, if_false] at hx ⊢; exact hx
        | _ => exact hx
      · simp only [look_ins] at hk' ⊢
        by_cases e : k' = k
        · subst e
          simp only [if_true, Option.some.injEq] at hk' ⊢
          subst hk'
          exact ⟨_, rfl, by rw [hlen n (by omega), hlen (n + 1) hn]⟩
        · simp only [e, if_false] at hk' ⊢; exact ⟨cs', hk', rfl⟩

theorem mark_frz (x : AV) : x.mark.frz = x.frz := by cases x <;> rfl
theorem mark_frz_map (cs : List AV) : (cs.map AV.mark).map AV.frz = cs.map AV.frz := by
  rw [List.map_map]; congr 1; funext x; exact mark_frz x
theorem markFrom_all (cs : List AV) : markFrom cs 0 cs.length = cs.map AV.mark := by simp [markFrom]
theorem resCells_mark (T : TypeId) (cs : List AV) : resCells C T (some (cs.map AV.mark)) = resCells C T (some cs) := by
  unfold resCells
  have e1 : (cs.map AV.mark).all (fun c => c.frz.isImm) = cs.all (fun c => c.frz.isImm) := by
    rw [List.all_map]; congr 1; funext x; simp [mark_frz]
  have e2 : (cs.map AV.mark)[0]?.map AV.frz = cs[0]?.map AV.frz := by cases cs <;> simp [mark_frz]
  simp only [List.length_map, e1, mark_frz_map, e2]
theorem resOne_mark {k : Nat} {cs : List AV} (hk : look σ.vars k = some cs) (r : ResultVar) : resOne C { σ with vars := ins k (cs.map AV.mark) σ.vars } r = resOne C σ r := by
  cases r with
  | tmp t => rfl
  | cell t T =>
    simp only [resOne]
    cases look σ.tmps t with
    | none => rfl
    | some y =>
      cases y <;> try rfl
      rename_i k' off
      cases off with
      | succ n => rfl
      | zero =>
        simp only [resVar, look_ins]
        by_cases e : k' = k
        · subst e
          simp only [if_true]
          rw [resCells_mark, hk]
        · simp only [e, if_false]
theorem resAll_mark {k : Nat} {cs : List AV} (hk : look σ.vars k = some cs) : ∀ (rs : List ResultVar), resAll C { σ with vars := ins k (cs.map AV.mark) σ.vars } rs = resAll C σ rs
  | [] => rfl
  | r :: rs => by simp only [resAll, resOne_mark hk r, resAll_mark hk rs]

def loadRes (tmps : Array Value) : ResultVar → Sem Value
  | .tmp t => pure (tmps.getD t undef)
  | .cell a t => do Go.loadVar t (← asAddr (tmps.getD a undef))

theorem resCells_ok (hok : CfgOk C) (h : RI F I own σ a w) {T : TypeId} {k : Nat} {cs : List AV} (hk : look σ.vars k = some cs) (hkn : (C.ti T).kind.known = true) (hm : ∀ x, x ∈ cs → x.mark = x) {y : AV} (hy : resCells C T (some cs) = some y) {b : Nat}
    (hb : a.tmps[k]? = some (.pointer (some ⟨b, 0, none⟩))) : ∃ v, (Go.loadVar T ⟨b, 0, none⟩).run C.P w = .ok v w ∧ AR F.mine I y v := by
  simp only [resCells] at hy
  split at hy
  · rename_i hc
    simp only [Bool.and_eq_true, decide_eq_true_eq, List.all_eq_true] at hc
    have cell : ∀ j x, cs[j]? = some x → ∃ v, w.cell? ⟨b, j, none⟩ = some v ∧ AR F.mine I x.frz v := by
      intro j x hx
      obtain ⟨v, hv, hr⟩ := h.slots (.cell k j) x (by simp only [ASt.at, hk, cellAt]; exact hx)
      simp only [conc, hb, cellOf] at hv
      exact ⟨v, hv, frz_ar h hr (hm x (List.mem_of_getElem? hx)) (hc.2 x (List.mem_of_getElem? hx))⟩
    have hone : ∀ j, j < cs.length → ∃ v, w.cell? ⟨b, j, none⟩ = some v ∧ v.oneCell' = true := by
      obtain ⟨b', e1, e2, e3, e4⟩ := h.boxes k cs hk
      rw [hb] at e1
      cases e1
      intro j hj
      obtain ⟨v, v1, v2, _⟩ := e4 j hj
      exact ⟨v, v1, v2⟩
    have hfit := hok.fit T hkn
    cases hag : (C.ti T).kind.isAgg with
    | true =>
      rw [if_pos hag] at hy
      cases hy
      have hisA := fit_isAgg hfit w
      rw [hag] at hisA
      have hget : ∀ (j : Nat) v, ((List.range cs.length).map fun j => (w.cell? ⟨b, j, none⟩).getD undef)[j]? = some v → w.cell? ((⟨b, 0, none⟩ : Addr).add j) = some v := by
        intro j v hj
        have hjl : j < cs.length := by
          have := (List.getElem?_eq_some_iff.1 hj).1
          simpa using this
        obtain ⟨u, hu, _⟩ := cell j _ (List.getElem?_eq_getElem hjl)
        rw [List.getElem?_map, List.getElem?_range hjl] at hj
        simp only [Option.map_some, hu, Option.getD_some, Option.some.injEq] at hj
        subst hj
        rw [Addr.add_lit, Nat.zero_add]; exact hu
      refine ⟨_, loadVar_agg hisA (fit_sizeOf hfit w) ((List.range cs.length).map fun j => (w.cell? ⟨b, j, none⟩).getD undef) (by simp [hc.1]) hget, ?_⟩
      refine .agg _ _ (by simp) (fun j v hj => ?_) fun j c v hcj hj => ?_
      · have hj' : ((List.range cs.length).map fun j => (w.cell? ⟨b, j, none⟩).getD undef)[j]? = some v := by simpa using hj
        have hjl : j < cs.length := by
          have := (List.getElem?_eq_some_iff.1 hj').1
          simpa using this
        have h1 := hget j v hj'
        rw [Addr.add_lit, Nat.zero_add] at h1
        obtain ⟨u, hu, h2⟩ := hone j hjl
        rw [h1] at hu
        cases hu
        exact h2
      · have hj' : ((List.range cs.length).map fun j => (w.cell? ⟨b, j, none⟩).getD undef)[j]? = some v := by simpa using hj
        have h1 := hget j v hj'
        rw [Addr.add_lit, Nat.zero_add] at h1
        rw [List.getElem?_map] at hcj
        cases hx : cs[j]? with
        | none => rw [hx] at hcj; cases hcj
        | some x =>
          rw [hx] at hcj
          cases hcj
          obtain ⟨u, hu, h2⟩ := cell j x hx
          rw [h1] at hu
          cases hu
          exact h2
    | false =>
      rw [if_neg (by rw [hag]; simp)] at hy
      cases hx : cs[0]? with
      | none => rw [hx] at hy; cases hy
      | some x =>
        rw [hx] at hy
        cases hy
        obtain ⟨v, hv, ha⟩ := cell 0 x hx
        have hisA := fit_isAgg hfit w
        rw [hag] at hisA
        exact ⟨v, loadVar_one hisA hv, ha⟩
  · cases hy

theorem resAll_ok (hC : F.C = C) (hok : CfgOk C) : ∀ (rs : List ResultVar) (σ : ASt) (I : Imm) (vs : List AV), RI F I own σ a w → (rs.map rkey).Nodup → (∀ t T, ResultVar.cell t T ∈ rs → (C.ti T).kind.known = true) → resAll C σ rs = some vs →
    ∃ J us gs σ', Imm.le I J ∧ RI F J own σ' a w ∧ (rs.mapM (loadRes a.tmps)).run C.P w = .ok us w ∧ us.length = rs.length ∧ VReps F.mine J w vs us gs ∧ gs.Nodup ∧ (∀ g, g ∈ gs → F.mine g ∧ ∃ t, ResultVar.tmp t ∈ rs ∧ own g = some (.tmp t)) ∧
      (∀ b, (∀ k j, own b ≠ some (.cell k j)) → ∀ o, J b o = I b o)
  | [], σ, I, vs, h, hn, hkn, he => by
    cases he
    exact ⟨I, [], [], σ, Imm.leRefl I, h, rfl, rfl, rfl, List.nodup_nil, (fun g hg => by cases hg), fun _ _ _ => rfl⟩
  | .tmp t :: rs, σ, I, vs, h, hn, hkn, he => by
    rw [resAll] at he
    cases h1 : resOne C σ (.tmp t) with
    | none => rw [h1] at he; cases he
    | some x =>
      cases h2 : resAll C σ rs with
      | none => rw [h1, h2] at he; cases he
      | some xs =>
        rw [h1, h2] at he
        cases he
        rw [List.map_cons, List.nodup_cons] at hn
        obtain ⟨J, us, gs, σ', j1, j2, j3, j3', j4, j5, j6, j7⟩ := resAll_ok hC hok rs σ I xs h hn.2 (fun t T ht => hkn t T (List.mem_cons_of_mem _ ht)) h2
        simp only [resOne] at h1
        cases hl : look σ.tmps t with
        | none => rw [hl] at h1; cases h1
        | some y =>
          rw [hl] at h1
          obtain ⟨v, hv, hr⟩ := h.slots (.tmp t) y hl
          have hload : (loadRes a.tmps (.tmp t)).run C.P w = .ok v w := by
            simp only [conc] at hv
            simp [loadRes, Array.getD_eq_getD_getElem?, hv]
          have hrun : ((ResultVar.tmp t :: rs).mapM (loadRes a.tmps)).run C.P w = .ok (v :: us) w := by
            simp [List.mapM_cons, hload, j3]
          have fin : ∀ g1, VRep F.mine I w x v g1 → (∀ g, g ∈ g1 → own g = some (.tmp t) ∧ g1 = [g]) → ∃ J us gs σ', Imm.le I J ∧ RI F J own σ' a w ∧ ((ResultVar.tmp t :: rs).mapM (loadRes a.tmps)).run C.P w = .ok us w ∧ us.length = (ResultVar.tmp t :: rs).length ∧ VReps F.mine J w (x :: xs) us gs ∧ gs.Nodup ∧ (∀ g, g ∈ gs → F.mine g ∧ ∃ t', ResultVar.tmp t' ∈ ResultVar.tmp t :: rs ∧ own g = some (.tmp t')) ∧
              (∀ b, (∀ k j, own b ≠ some (.cell k j)) → ∀ o, J b o = I b o) := by
            intro g1 hx hg1
            refine ⟨J, v :: us, g1 ++ gs, σ', j1, j2, hrun, by simp [j3'], ⟨g1, gs, rfl, hx.keep (fun _ h => h) j1 (fun g hg => j7 g fun k j e => ?_), j4⟩, ?_, fun g hg => ?_, j7⟩
            · rw [(hg1 g hg).1] at e; cases e
            · rw [List.nodup_append]
              refine ⟨?_, j5, fun p hp q hq e => ?_⟩
              · cases g1 with
                | nil => exact List.nodup_nil
                | cons g r => rw [(hg1 g (by simp)).2]; simp
              · subst e
                obtain ⟨_, t', ht', e'⟩ := j6 p hq
                rw [(hg1 p hp).1] at e'
                cases e'
                exact hn.1 (List.mem_map.2 ⟨.tmp t, ht', rfl⟩)
            · rcases List.mem_append.1 hg with e | e
              · exact ⟨(h.mine g _ (hg1 g e).1).1, t, by simp, (hg1 g e).1⟩
              · obtain ⟨e1, t', e2, e3⟩ := j6 g e
                exact ⟨e1, t', List.mem_cons_of_mem _ e2, e3⟩
          by_cases ho : ∃ sh sz es, y = .own sh sz es
          · obtain ⟨sh, sz, es, rfl⟩ := ho
            simp only [resTmp, Option.some.injEq] at h1
            subst h1
            rcases hr with ⟨rfl, rfl⟩ | ⟨g, cap, rfl, hg, hrow⟩
            · exact fin [] (vrep_nil _ _) fun g hg => by cases hg
            · exact fin [g] (vrep_row (h.mine g _ hg).2 hrow) fun g' hg' => by
                rw [List.mem_singleton] at hg'; subst hg'; exact ⟨hg, rfl⟩
          · have h1' : (if y.isImm = true then some y else none) = some x := by
              cases y <;> first | exact h1 | exact (ho ⟨_, _, _, rfl⟩).elim
            by_cases hi : y.isImm = true
            · rw [if_pos hi] at h1'
              cases h1'
              exact fin [] (vrep_imm ((srep_imm hi).1 hr)) fun g hg => by cases hg
            · rw [if_neg hi] at h1'; cases h1'
  | .cell t T :: rs, σ, I, vs, h, hn, hkn, he => by
    rw [resAll] at he
    cases h1 : resOne C σ (.cell t T) with
    | none => rw [h1] at he; cases he
    | some x =>
      cases h2 : resAll C σ rs with
      | none => rw [h1, h2] at he; cases he
      | some xs =>
        rw [h1, h2] at he
        cases he
        rw [List.map_cons, List.nodup_cons] at hn
        simp only [resOne] at h1
        cases hl : look σ.tmps t with
        | none => rw [hl] at h1; cases h1
        | some y =>
          rw [hl] at h1
          cases y <;> simp only [resVar] at h1 <;> try cases h1
          rename_i k off
          cases off with
          | succ n => cases h1
          | zero =>
            simp only at h1
            cases hk : look σ.vars k with
            | none => rw [hk] at h1; cases h1
            | some cs =>
              rw [hk] at h1
              obtain ⟨J1, k1, k2, k3⟩ := markCellsMore h hk cs.length (Nat.le_refl _)
              rw [markFrom_all] at k2
              have hk2 : look (ASt.vars { σ with vars := ins k (cs.map AV.mark) σ.vars }) k = some (cs.map AV.mark) := by simp [look_ins]
              obtain ⟨b, hb, _⟩ := h.boxes k cs hk
              obtain ⟨v, hv, hr⟩ := h.slots (.tmp t) _ hl
              obtain ⟨b', hb', hve⟩ := hr cs hk
              rw [hb] at hb'
              cases hb'
              have hfr : resCells C T (some (cs.map AV.mark)) = some x := by rw [resCells_mark]; exact h1
              obtain ⟨u, hu, ha⟩ := resCells_ok hok k2 hk2 (hkn t T (by simp)) (fun x hx => by
                obtain ⟨z, _, rfl⟩ := List.mem_map.1 hx
                cases z <;> rfl) hfr hb
              obtain ⟨J, us, gs, σ', j1, j2, j3, j3', j4, j5, j6, j7⟩ := resAll_ok hC hok rs _ J1 xs k2 hn.2 (fun t T ht => hkn t T (List.mem_cons_of_mem _ ht)) (by rw [resAll_mark hk]; exact h2)
              have hload : (loadRes a.tmps (.cell t T)).run C.P w = .ok u w := by
                simp only [conc] at hv
                simp [loadRes, Array.getD_eq_getD_getElem?, hv, hve, asAddr, hu]
              refine ⟨J, u :: us, gs, σ', k1.trans j1, j2, by simp [List.mapM_cons, hload, j3], by simp [j3'], ⟨[], gs, rfl, vrep_imm (ha.mono (fun _ h => h) j1), j4⟩, j5, fun g hg => ?_, fun b hb o => by rw [j7 b hb o, k3 b hb o]⟩
              obtain ⟨e1, t', e2, e3⟩ := j6 g hg
              exact ⟨e1, t', List.mem_cons_of_mem _ e2, e3⟩

/-- The state in which a call begins. -/
theorem look_args : ∀ (as : List AV) (i j : Nat), look (argsAt i as) j = if i ≤ j then as[j - i]? else none
  | [], i, j => by simp [argsAt, look]
  | x :: as, i, j => by
    rw [argsAt, look, look_args as (i + 1) j]
    by_cases e : j = i
    · subst e; simp
    · rw [if_neg e]
      by_cases e2 : i ≤ j
      · rw [if_pos (by omega), if_pos e2, show j - i = (j - (i + 1)) + 1 by omega, List.getElem?_cons_succ]
      · rw [if_neg (by omega), if_neg e2]

theorem VReps.plain {M N : Nat → Prop} : ∀ (as : List AV) (vs : List Value) (gs : List Nat), VReps M I w as vs gs → (∀ x, x ∈ as → Plain x) → VReps N I w as vs gs
  | [], [], gs, h, _ => h
  | y :: as, u :: vs, gs, h, hp => by
    obtain ⟨g1, g2, rfl, h1, h2⟩ := h
    refine ⟨g1, g2, rfl, ?_, VReps.plain as vs g2 h2 fun x hx => hp x (List.mem_cons_of_mem _ hx)⟩
    have hy := hp y (by simp)
    rcases vrep_cases h1 with ⟨sh, sz, rfl, rfl, rfl⟩ | ⟨sh, sz, es, g, cap, rfl, rfl, rfl, hlt, hr⟩ | ⟨hi, ha, rfl⟩
    · exact vrep_nil _ _
    · refine vrep_row hlt ⟨hr.le, hr.capm, hr.cells, fun i e he => ?_, hr.immc, hr.immn⟩
      obtain ⟨v, v1, v2, v3⟩ := hr.elems i e he
      cases hy with
      | own _ _ _ hpe => exact ⟨v, v1.plain (hpe e (List.mem_of_getElem? he)), v2, v3⟩
    · exact vrep_imm (ha.plain hy)
  | [], _ :: _, gs, h, _ => h.elim
  | _ :: _, [], gs, h, _ => h.elim

theorem start_ok (hI : Imm.ok I w) {args : List AV} {vs : List Value} {gs : List Nat} (h : VReps (fun b => w.heap.size ≤ b ∨ b ∈ gs) I w args vs gs) (hn : gs.Nodup) (hsz : args.length ≤ C.n) (hfix : C.fix = []) :
    RI ⟨C, w, I, (· ∈ gs), fun _ => false, fun _ => False, [], #[]⟩ I (giveTup (fun _ => none) Loc.tmp 0 args vs) (startSt args) { tmps := vs.toArray ++ Array.replicate (C.n - vs.toArray.size) undef, defers := [] } w := by
  obtain ⟨hlen, hlt⟩ := vreps_len args vs gs h
  have at_args : ∀ l x, (startSt args).at l = some x → ∃ i, l = .tmp i ∧ args[i]? = some x := by
    intro l x hx
    have key : ∀ t, look (startSt args).tmps t = args[t]? := fun t => by
      show look (argsAt 0 args) t = _
      rw [look_args]; simp
    cases l with
    | tmp t =>
      simp only [ASt.at, key] at hx
      exact ⟨t, rfl, hx⟩
    | cell k j => cases hx
    | comp t j =>
      simp only [ASt.at, key] at hx
      cases ha : args[t]? with
      | none => rw [ha] at hx; cases hx
      | some y =>
        rw [ha] at hx
        cases y <;> simp only [AV.compAt] at hx <;> try cases hx
        obtain ⟨v, _, hc⟩ := giveTup_at (own := fun _ => none) Loc.tmp args vs gs 0 h hn t _ ha
        rcases hc with ⟨_, _, e, _⟩ | ⟨_, _, _, _, _, e, _⟩ | ⟨e, _⟩
        · cases e
        · cases e
        · cases e
    | box k => cases hx
  exact {
    imm := hI
    base := Imm.leRefl I
    inew := fun b o v hb => .inl hb
    fr := ⟨rfl, rfl, rfl, Nat.le_refl _, fun _ _ _ => rfl⟩
    mine := fun b l hb => by
      rcases giveTup_some Loc.tmp h hb with e | e
      · cases e
      · exact ⟨.inr e, hlt b e⟩
    defs := ⟨rfl, fun t e => by rw [hfix] at e; cases e⟩
    size := by
      show (vs.toArray ++ Array.replicate (C.n - vs.toArray.size) undef).size = C.n
      simp; omega
    slots := by
      intro l x hx
      obtain ⟨i, rfl, hi⟩ := at_args l x hx
      obtain ⟨v, hv, hc⟩ := giveTup_at (own := fun _ => none) Loc.tmp args vs gs 0 h hn i x hi
      have hil := (List.getElem?_eq_some_iff.1 hv).1
      refine ⟨v, ?_, ?_⟩
      · simp only [conc]
        rw [Array.getElem?_append_left (by simpa using hil)]
        simpa using hv
      · rcases hc with ⟨sh, sz, rfl, rfl⟩ | ⟨sh, sz, es, g, cap, rfl, rfl, hg, hr, _⟩ | ⟨hi, ha⟩
        · exact .inl ⟨rfl, rfl⟩
        · exact .inr ⟨g, cap, rfl, by rw [hg, Nat.zero_add], hr⟩
        · exact (srep_imm hi).2 ha
    boxes := fun k cs hk => by cases hk
    quiet := fun l x hx hl => by
      obtain ⟨i, rfl, _⟩ := at_args l x hx
      exact (hl i rfl).elim
    lk := ⟨fun b hb => hb.elim, fun k e => by cases e⟩ }

theorem results_eq (fn : Func) (tmps : Array Value) : results fn tmps = (do let vs ← fn.results.mapM (loadRes tmps); pure (if h : vs.size = 1 then vs[0] else .tuple vs)) := by
  unfold results
  congr 1
theorem run_results {P : Program} {fn : Func} {tmps : Array Value} {us : List Value} (h : (fn.results.toList.mapM (loadRes tmps)).run P w = .ok us w) :
    (results fn tmps).run P w = .ok (if hs : us.toArray.size = 1 then us.toArray[0] else .tuple us.toArray) w := by
  rw [results_eq, Array.mapM_eq_mapM_toList]
  simp [h]

/-- The marks of loops over functions, taken over one by one. -/
theorem leaves_marks {P : Program} {fn : Func} {tmps : Array Value} {R : Ending → World → Prop} : ∀ (ms : List Nat) (w : World), ms.Nodup → (∀ D, D ∈ ms → w.heap[D]? = some (.deferred (some []))) →
    (∀ w2 : World, (∀ p, w2.cell? p = w.cell? p ∧ w2.frozen? p = w.frozen? p) → w2.heap.size = w.heap.size → w2.os = w.os → w2.tape = w.tape → w2.output = w.output → (∀ k, k ∉ ms → w2.heap[k]? = w.heap[k]?) → ∃ v, (results fn tmps).run P w2 = .ok v w2 ∧ R (.returned v) w2) →
    LeavesInM Fence.wide 0 P fn tmps R (ms.map mkD) .returning w
  | [], w, _, _, h => h w (fun _ => ⟨rfl, rfl⟩) rfl rfl rfl rfl (fun _ _ => rfl)
  | D :: ms, w, hn, hD, h => by
    have h0 := hD D (by simp)
    obtain ⟨n1, n2⟩ := List.nodup_cons.1 hn
    have hc := cell?_put (w := w) (o' := .deferred none) h0 (fun _ _ _ e => by cases e) (fun _ _ _ e => by cases e)
    show LeavesInM Fence.wide 0 P fn tmps R (mkD D :: ms.map mkD) .returning w
    unfold LeavesInM
    refine ⟨(fun e => by cases e), .inl ⟨D, w.putObj D (.deferred none), rfl, run_takeDeferred h0, leaves_marks ms _ n2 (fun D' h' => ?_) fun w2 e1 e2 e3 e4 e5 e6 => ?_⟩⟩
    · rw [World.putObj_heap_other (fun e => n1 (by rw [← e]; exact h'))]
      exact hD D' (List.mem_cons_of_mem _ h')
    · refine h w2 (fun p => ⟨(e1 p).1.trans (hc p).1, (e1 p).2.trans (hc p).2⟩) (by rw [e2, World.putObj_size]) e3 e4 e5 fun k hk => ?_
      simp only [List.mem_cons, not_or] at hk
      rw [e6 k hk.2, World.putObj_heap_other hk.1]
/-- The state at the end, seen from the begin. -/
theorem RI.home {F F2 : Fx} {J : Imm} {own : Nat → Option Loc} {τ : ASt} {a : Act} {w w2 : World} (hE : Ext F F2) (hop : F.open) (hfix : F.C.fix = []) (hds : F.ds = []) (h : RI F2 J own τ a w) (hc : ∀ p, w2.cell? p = w.cell? p ∧ w2.frozen? p = w.frozen? p) (hsz : w2.heap.size = w.heap.size)
    (hos : w2.os = w.os) (ht : w2.tape = w.tape) (ho : w2.output = w.output) (hk : ∀ k, k < F.w0.heap.size → w2.heap[k]? = w.heap[k]?) : RI F J own τ { tmps := a.tmps, defers := [] } w2 := by
  have hm2 : ∀ b, own b ≠ none → F2.mine b := fun b hb => by
    cases e : own b with
    | none => exact (hb e).elim
    | some loc => exact (h.mine b loc e).1
  have h1 := h.turn (F2 := ⟨F.C, w2, J, fun b => own b ≠ none, fun _ => false, fun _ => False, [], F.a0⟩) (w2 := w2) (a2 := { tmps := a.tmps, defers := [] }) (by show F.C.n = F2.C.n; rw [hE.cfg]) rfl rfl ⟨fun _ => rfl, fun _ h => h⟩ (fun b loc hb => by show own b ≠ none; rw [hb]; exact fun e => by cases e) rfl
    ⟨rfl, fun t e => by rw [show Cfg.fix _ = F.C.fix from rfl, hfix] at e; cases e⟩ (fun p => (hc p).1) (fun p => (hc p).2) (by omega)
  have hs1 : F.w0.heap.size ≤ F2.w0.heap.size := hE.fr.size
  have hs2 : F2.w0.heap.size ≤ w.heap.size := h.fr.size
  have fr1 : Fr F.w0 w F.S := fr_two hE.fr h.fr fun b hb hn e => by
    rcases hE.mine b (.inr e) with q | q
    · omega
    · exact hn q
  refine RI.back (F := F) (F' := ⟨F.C, w2, J, fun b => own b ≠ none, fun _ => false, fun _ => False, [], F.a0⟩) ⟨rfl, fun b hb => ?_, hE.le.trans h.base, fun b o v e => ?_, fr_trans fr1 hos ht ho (by show _ ≤ w2.heap.size; omega) fun k hk2 _ => hk k hk2, hds.symm, rfl⟩ hop h1
  · rcases hb with q | q
    · have q : w2.heap.size ≤ b := q
      exact .inl (by omega)
    · exact hE.mine b (hm2 b q)
  · rcases h.inew b o v e with q | q
    · exact hE.inew b o v q
    · exact .inr (hE.mine b q)

/-- A contract, out of the abstract run of the body. -/
theorem contract_of (hok : CfgOk C) {f : FuncId} {fn : Func} {c : Code} (hf : C.P.funcs[f]? = some fn) (hname : (fn.name == "runtime.NumGoroutine") = false) (hb : fn.body = some c) (hn : C.n = fn.ntmps) {args : List AV} (hsz : args.length ≤ C.n) (hpl : ∀ x, x ∈ args → Plain x)
    (hrs : (fn.results.toList.map rkey).Nodup) (hkn : ∀ t T, ResultVar.cell t T ∈ fn.results.toList → (C.ti T).kind.known = true) {res : AV} (hx : exec C (BodyPost C fn.results.toList res) [.code c] .normal (startSt args)) (hfix : C.fix = [] := by rfl) (hdf : noDeferC c = true := by kernel_rfl) : Contract C.P f args res := by
  refine ⟨⟨fn, c, hf, hname, hb⟩, fun I w vs gs hI hreps hnd => ?_⟩
  have hreps' : VReps (fun b => w.heap.size ≤ b ∨ b ∈ gs) I w args vs gs := VReps.plain args vs gs hreps hpl
  have hri := start_ok (C := C) hI hreps' hnd hsz hfix
  refine callsIn_wide.1 (callsIn_of_wp_marks (F := Fence.wide) (n := 0) hf hb trivial ?_)
  rw [← hn]
  have hop : (Fx.mk C w I (· ∈ gs) (fun _ => false) (fun _ => False) [] #[]).open := ⟨fun _ => rfl, fun _ h => h⟩
  refine wpIn_mono (aco_ok c hdf C hok ⟨C, w, I, (· ∈ gs), fun _ => false, fun _ => False, [], #[]⟩ rfl hop none (.inl rfl) _ _ I _ _ w hri hx) ?_
  have main : ∀ a' w', Post ⟨C, w, I, (· ∈ gs), fun _ => false, fun _ => False, [], #[]⟩ (fun σ => ResFin (resOf C σ fn.results.toList) res) a' w' → bodyPost C.P fn (fun e w' => ∃ v I' gs', e = .returned v ∧ Imm.le I I' ∧ Imm.ok I' w' ∧ Fr w w' (· ∈ gs) ∧
      (∀ b o u, I' b o = some u → I b o = some u ∨ w.heap.size ≤ b ∨ b ∈ gs) ∧ RRep (fun b => w.heap.size ≤ b ∨ b ∈ gs) I' w' res v gs' ∧ gs'.Nodup ∧
      ∀ g, g ∈ gs' → (w.heap.size ≤ g ∨ g ∈ gs) ∧ g < w'.heap.size) .normal a' w' := by
    intro a' w' ⟨J, own', τ, h1, h2⟩
    have h2 : ResFin (resOf C τ fn.results.toList) res := h2
    refine ⟨h1.defs.1, ?_⟩
    cases hres : resOf C τ fn.results.toList with
    | none => rw [hres] at h2; exact h2.elim
    | some r =>
      rw [hres] at h2
      unfold resOf at hres
      cases hall : resAll C τ fn.results.toList with
      | none => rw [hall] at hres; cases hres
      | some xs =>
        rw [hall] at hres
        obtain ⟨J1, us, gs1, τ', j1, j2, j3, j3', j4, j5, j6, j7⟩ := resAll_ok (F := ⟨C, w, I, (· ∈ gs), fun _ => false, fun _ => False, [], #[]⟩) rfl hok _ τ J xs h1 hrs hkn hall
        have hrun := run_results j3
        have fin : ∀ v J2 gs2, (if hs : us.toArray.size = 1 then us.toArray[0] else Value.tuple us.toArray) = v → Imm.le J1 J2 → Imm.ok J2 w' → (∀ b, b ∉ gs1 → ∀ o, J2 b o = J1 b o) → RRep (fun b => w.heap.size ≤ b ∨ b ∈ gs) J2 w' res v gs2 → gs2.Nodup → (∀ g, g ∈ gs2 → g ∈ gs1) →
            ∃ v, (results fn a'.tmps).run C.P w' = .ok v w' ∧ ∃ v' I' gs', Ending.returned v = .returned v' ∧ Imm.le I I' ∧ Imm.ok I' w' ∧ Fr w w' (· ∈ gs) ∧
              (∀ b o u, I' b o = some u → I b o = some u ∨ w.heap.size ≤ b ∨ b ∈ gs) ∧ RRep (fun b => w.heap.size ≤ b ∨ b ∈ gs) I' w' res v' gs' ∧ gs'.Nodup ∧ ∀ g, g ∈ gs' → (w.heap.size ≤ g ∨ g ∈ gs) ∧ g < w'.heap.size := by
          intro v J2 gs2 hv k1 k2 k3 k4 k5 k6
          rw [hv] at hrun
          refine ⟨v, hrun, v, J2, gs2, rfl, j2.base.trans k1, k2, j2.fr, fun b o u hb => ?_, k4, k5, fun g hg => ?_⟩
          · by_cases hbg : b ∈ gs1
            · exact .inr (j6 b hbg).1
            · rw [k3 b hbg o] at hb
              exact j2.inew b o u hb
          · obtain ⟨q1, t, _, q2⟩ := j6 g (k6 g hg)
            exact ⟨q1, (j2.mine g _ q2).2⟩
        have hM : ∀ g, g ∈ gs1 → Fx.mine ⟨C, w, I, (· ∈ gs), fun _ => false, fun _ => False, [], #[]⟩ g := fun g hg => (j6 g hg).1
        cases xs with
        | nil =>
          simp only [resTup, Option.some.injEq] at hres
          subst hres
          cases h2 with
          | one n1 _ _ => exact absurd rfl (n1 _)
          | tup hf =>
            rename_i ys
            obtain ⟨J2, gs2, b1, b2, b3, b4, b5, b6⟩ := fins_ok [] ys us gs1 J1 j2.imm hM j5 j4 hf
            refine fin _ J2 gs2 rfl b1 b2 b3 ⟨us, ?_, b4⟩ b5 b6
            have : us.length = 0 := by rw [← (vreps_len [] us gs1 j4).1]; rfl
            rw [dif_neg (by rw [List.size_toArray, this]; omega)]
        | cons x xs =>
          cases xs with
          | nil =>
            simp only [resTup, Option.some.injEq] at hres
            subst hres
            cases h2 with
            | one n1 n2 hf =>
              obtain ⟨J2, gs2, b1, b2, b3, b4, b5, b6⟩ := fins_ok [x] [res] us gs1 J1 j2.imm hM j5 j4 (.cons hf .nil)
              obtain ⟨v, rfl⟩ : ∃ v, us = [v] := by
                match us, b4 with
                | [v], _ => exact ⟨v, rfl⟩
                | [], b => exact b.elim
                | _ :: _ :: _, b => obtain ⟨_, _, _, _, e⟩ := b; exact e.elim
              obtain ⟨g1, g2, rfl, q1, q2⟩ := b4
              obtain rfl : g2 = [] := q2
              refine fin v J2 (g1 ++ []) (by rw [dif_pos (by rfl)]; rfl) b1 b2 b3 ?_ b5 b6
              rw [List.append_nil]
              cases res <;> first | exact q1 | exact absurd rfl (n2 _)
            | tup hf =>
              -- one result that is a tuple: no such thing stands in memory
              match us, j4 with
              | v :: vs, j4 =>
                obtain ⟨g1, g2, _, q, _⟩ := j4
                rcases vrep_cases q with ⟨_, _, e, _⟩ | ⟨_, _, _, _, _, e, _⟩ | ⟨e, _⟩ <;> cases e
          | cons x2 xs =>
            simp only [resTup, Option.some.injEq] at hres
            subst hres
            cases h2 with
            | one n1 _ _ => exact absurd rfl (n1 _)
            | tup hf =>
              rename_i ys
              obtain ⟨J2, gs2, b1, b2, b3, b4, b5, b6⟩ := fins_ok _ ys us gs1 J1 j2.imm hM j5 j4 hf
              refine fin _ J2 gs2 rfl b1 b2 b3 ⟨us, ?_, b4⟩ b5 b6
              have : us.length = xs.length + 2 := by rw [← (vreps_len _ us gs1 j4).1]; rfl
              rw [dif_neg (by rw [List.size_toArray, this]; omega)]
  have fin : ∀ a' w', PostX ⟨C, w, I, (· ∈ gs), fun _ => false, fun _ => False, [], #[]⟩ (fun σ => ResFin (resOf C σ fn.results.toList) res) a' w' → LeavesInM Fence.wide 0 C.P fn a'.tmps (fun e w' => ∃ v I' gs', e = .returned v ∧ Imm.le I I' ∧ Imm.ok I' w' ∧ Fr w w' (· ∈ gs) ∧
      (∀ b o u, I' b o = some u → I b o = some u ∨ w.heap.size ≤ b ∨ b ∈ gs) ∧ RRep (fun b => w.heap.size ≤ b ∨ b ∈ gs) I' w' res v gs' ∧ gs'.Nodup ∧
      ∀ g, g ∈ gs' → (w.heap.size ≤ g ∨ g ∈ gs) ∧ g < w'.heap.size) a'.defers .returning w' := by
    rintro a' w' ⟨F2, hE, J, own', τ, h1, h2⟩
    obtain ⟨ms, e1, e2, e3⟩ := hE.ds
    have hD : ∀ D, D ∈ ms → w'.heap[D]? = some (.deferred (some [])) := fun D hD => by
      obtain ⟨_, q2, q3⟩ := e3 D hD
      rw [h1.fr.block D (Array.getElem?_eq_some_iff.1 q2).1 q3]
      exact q2
    rw [h1.defs.1, e1, show (Fx.mk C w I (· ∈ gs) (fun _ => false) (fun _ => False) [] #[]).ds = [] from rfl, List.append_nil]
    refine leaves_marks ms w' e2 hD fun w2 k1 k2 k3 k4 k5 k6 => ?_
    have h3 := RI.home hE hop hfix rfl h1 k1 k2 k3 k4 k5 fun k hk => k6 k fun e => by
      have := (e3 k e).1
      have hk : k < w.heap.size := hk
      have this : w.heap.size ≤ k := this
      omega
    exact (main { tmps := a'.tmps, defers := [] } w2 ⟨J, own', τ, h3, h2⟩).2
  intro e a' w' hq
  cases e with
  | normal => exact fin a' w' hq
  | ret => exact fin a' w' hq
  | exit id => obtain ⟨_, _, _, _, _, _, hf⟩ := hq; exact hf.elim
  | goto l => exact hq.elim
  | panic ch => exact hq.elim
  | outgrown => exact hq.elim

end
end Go.Proofs.Ytjfnmlheehbojaa.VA
