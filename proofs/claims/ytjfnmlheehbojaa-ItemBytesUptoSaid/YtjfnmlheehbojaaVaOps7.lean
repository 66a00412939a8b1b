/- Structs, arrays and slices that are built of parts. -/
import Derived.Test.YtjfnmlheehbojaaVaOps6
namespace Go.Proofs.Ytjfnmlheehbojaa.VA
section
variable {F : Fx} {I : Imm} {own : Nat → Option Loc} {σ : ASt} {a : Act} {w w' : World} {C : Cfg} {K : ASt → Prop} {Q : Exit → Act → World → Prop}

theorem fold_put (off : Nat) : ∀ (vs : List Value) (k : Nat) (cells : Array Value), off + k + vs.length ≤ cells.size →
    ((vs.zipIdx k).foldl (fun cs p => cs.setIfInBounds (off + p.2) p.1) cells).size = cells.size ∧
    ∀ q, ((vs.zipIdx k).foldl (fun cs p => cs.setIfInBounds (off + p.2) p.1) cells)[q]? = if off + k ≤ q ∧ q < off + k + vs.length then vs[q - (off + k)]? else cells[q]?
  | [], k, cells, _ => by
    refine ⟨rfl, fun q => ?_⟩
    rw [if_neg (by simp)]; rfl
  | v :: vs, k, cells, h => by
    rw [List.zipIdx_cons, List.foldl_cons]
    simp only [List.length_cons] at h
    obtain ⟨h1, h2⟩ := fold_put off vs (k + 1) (cells.setIfInBounds (off + k) v) (by rw [Array.size_setIfInBounds]; omega)
    refine ⟨by rw [h1, Array.size_setIfInBounds], fun q => ?_⟩
    rw [h2 q]
    simp only [List.length_cons]
    by_cases e : off + (k + 1) ≤ q ∧ q < off + (k + 1) + vs.length
    · rw [if_pos e, if_pos (by omega), show q - (off + k) = (q - (off + (k + 1))) + 1 by omega, List.getElem?_cons_succ]
    · rw [if_neg e, Array.getElem?_setIfInBounds]
      by_cases e2 : off + k = q
      · subst e2
        rw [if_pos rfl, if_pos (by omega), if_pos (by omega)]
        simp
      · rw [if_neg e2, if_neg (by omega)]

theorem fill_step {place : Nat → Option (Nat × Nat)} {i off size : Nat} (hp : place i = some (off, size)) (v : Value) (hs : v.cells.size = size) (cells : Array Value) (hle : off + size ≤ cells.size) (rest : List (Nat × Value)) :
    ∃ cells1, Instr.fill place cells ((i, v) :: rest) = Instr.fill place cells1 rest ∧ cells1.size = cells.size ∧ ∀ q, cells1[q]? = if off ≤ q ∧ q < off + size then v.cells[q - off]? else cells[q]? := by
  subst hs
  have hn : ¬ (v.cells.size ≠ v.cells.size ∨ off + v.cells.size > cells.size) := by omega
  refine ⟨v.cells.zipIdx.foldl (fun cs p => cs.setIfInBounds (off + p.2) p.1) cells, ?_, ?_⟩
  · rw [Instr.fill, hp]
    simp only [ne_eq, not_true_eq_false, decide_false, Bool.false_or]
    rw [if_neg (by simp; omega)]
  · obtain ⟨h1, h2⟩ := fold_put off v.cells.toList 0 cells (by simpa using hle)
    rw [← Array.foldl_toList]
    have e : v.cells.zipIdx.toList = v.cells.toList.zipIdx := by simp
    rw [e]
    refine ⟨h1, fun q => ?_⟩
    rw [h2 q]
    simp

theorem ar_put {M : Nat → Prop} {cs : List AV} {cells cells1 : Array Value} {y : AV} {v : Value} {off : Nat} (hx : AR M I (.agg cs) (.agg cells)) (hy : AR M I y v) (hle : off + y.flat.length ≤ cs.length)
    (hs : cells1.size = cells.size) (hc : ∀ q, cells1[q]? = if off ≤ q ∧ q < off + v.cells.size then v.cells[q - off]? else cells[q]?) : AR M I (.agg (putAt cs off y.flat)) (.agg cells1) := by
  cases hx with
  | agg _ _ hl h1 hh =>
    have hfl := hy.flen
    refine .agg _ _ (by rw [putAt_length cs _ off hle, hl, hs]) (fun j u hu => ?_) fun j c u hc' hu => ?_
    · rw [hc] at hu
      split at hu
      · exact hy.one _ u hu
      · exact h1 j u hu
    · rw [hc] at hu
      rw [putAt_get cs _ off j hle, hfl] at hc'
      split at hu
      · rename_i e
        rw [if_pos e] at hc'
        exact hy.fcell _ c u hc' hu
      · rename_i e
        rw [if_neg e] at hc'
        exact hh j c u hc' hu

theorem build_ok {T : TypeId} {place : Nat → Option (Nat × Nat)} (hpl : ∀ i off size PT, placeOf C T i = some (off, size, PT) → place i = some (off, size)) :
    ∀ (parts : List (Nat × Operand)) (cs : List AV) (σ : ASt) (I : Imm) (cells : Array Value), RI F I own σ a w → AR F.mine I (.agg cs) (.agg cells) →
      ∀ cs' τ, buildGo C T parts (some (cs, σ)) = some (cs', τ) → ∃ J cells', Imm.le I J ∧ RI F J own τ a w ∧ Instr.fill place cells (parts.map fun p => (p.1, a.eval p.2)) = some cells' ∧ AR F.mine J (.agg cs') (.agg cells')
  | [], cs, σ, I, cells, h, hx, cs', τ, he => by
    cases he
    exact ⟨I, cells, Imm.leRefl I, h, rfl, hx⟩
  | (i, x) :: r, cs, σ, I, cells, h, hx, cs', τ, he => by
    rw [buildGo] at he
    cases hp : placeOf C T i with
    | none => rw [hp] at he; cases r <;> cases he
    | some q =>
      obtain ⟨off, size, PT⟩ := q
      rw [hp, partAt] at he
      have hr := rd_ok h C PT x
      cases hi : σ.imm (σ.rd C PT x) with
      | none => rw [hi] at he; cases r <;> cases he
      | some q =>
        obtain ⟨y, τ1⟩ := q
        rw [hi, partIn] at he
        split at he
        · rename_i hcond
          simp only [Bool.and_eq_true, decide_eq_true_eq] at hcond
          obtain ⟨J, j1, j2, j3⟩ := imm_ok h hr hi
          have hxJ := hx.mono (fun _ h => h) j1
          have hsz : cs.length = cells.size := by cases hx with | agg _ _ hl _ _ => exact hl
          have hvs : (a.eval x).cells.size = size := by rw [← j3.flen]; exact hcond.1
          obtain ⟨cells1, f1, f2, f3⟩ := fill_step (hpl i off size PT hp) (a.eval x) hvs cells (by rw [← hsz]; exact hcond.2) (r.map fun p => (p.1, a.eval p.2))
          have hput := ar_put hxJ j3 (by rw [hcond.1]; exact hcond.2) f2 (by rw [hvs]; exact f3)
          obtain ⟨J2, cells', k1, k2, k3, k4⟩ := build_ok hpl r _ τ1 J cells1 j2 hput cs' τ he
          exact ⟨J2, cells', j1.trans k1, k2, by rw [List.map_cons, f1]; exact k3, k4⟩
        · cases r <;> cases he

theorem op_build (hC : F.C = C) (hok : CfgOk C) (h : RI F I own σ a w) {dst : Option Tmp} {T ty : TypeId} {parts : Array (Nat × Operand)} {pos : String} {after : Array Edge} {g : Option (Nat × Bool)}
    (hw : (opR C σ dst ty (.build T parts)).wp C K) : Oper.wp C.P ⟨dst, .build T parts, ty, pos, after, g⟩ a w (Post F K) Q := by
  simp only [opR] at hw
  have hchk := chk_ok hw
  clear hw
  obtain ⟨hag, hw⟩ := hchk
  have hkn : (C.ti T).kind.known = true := by cases hk : (C.ti T).kind <;> rw [hk] at hag <;> first | rfl | cases hag
  obtain ⟨it, z, e1, e2, e3, e4, e5⟩ := zero_ar0 (hok.fit T hkn) hag F.mine I
  obtain ⟨zc, rfl⟩ := ar_agg e5
  have hfit := (hok.fit T hkn).kind
  cases hb : buildGo C T parts.toList (some ((C.ti T).zero.map AV.frz0, σ)) with
  | none => rw [hb] at hw; exact hw.elim
  | some q =>
    obtain ⟨cs', τ⟩ := q
    rw [hb] at hw
    have key : ∀ {place : Nat → Option (Nat × Nat)}, (∀ i off size PT, placeOf C T i = some (off, size, PT) → place i = some (off, size)) →
        (∀ cells, Instr.fill place zc (parts.toList.map fun p => (p.1, a.eval p.2)) = some cells → C.P.built T (parts.map fun p => (p.1, a.eval p.2)).toList = some cells) →
        Oper.wp C.P ⟨dst, .build T parts, ty, pos, after, g⟩ a w (Post F K) Q := by
      intro place hpl hbt
      obtain ⟨J, cells', j1, j2, j3, j4⟩ := build_ok hpl parts.toList _ σ I zc h e5 cs' τ hb
      refine by_value (w' := w) (v := .agg cells') ?_ (wr_rv hC j2 hw j4)
      have hr := run_build (P := C.P) w T (parts.map fun p => (p.1, a.eval p.2)) cells' (hbt cells' j3)
      simp only [execOp]
      simp [hr]
    cases hk : (C.ti T).kind <;> rw [hk] at hag <;> try cases hag
    · rename_i n e esz
      rw [hk] at hfit
      obtain ⟨hu, ie, hie, hsz, _⟩ := hfit
      refine key (place := fun i => some (i * ie.size, ie.size)) (fun i off size PT hp => ?_) fun cells hf => ?_
      · simp only [placeOf, hk] at hp
        split at hp
        · cases hp; rw [hsz]
        · cases hp
      · unfold Program.built
        rw [e1, hu]
        simp only [e3, hie]
        rw [Array.toList_map]; exact hf
    · rename_i fs
      rw [hk] at hfit
      obtain ⟨A, hu, hlen, hA⟩ := hfit
      have hpl : A.toList.mapM (fun f => (C.P.info? f.type).map fun i => (f.offset, i.size)) = some (fs.map fun p => (p.1, p.2.1)) := by
        have gen : ∀ (as : List Field) (fs : List (Nat × Nat × TypeId)), as.length = fs.length → (∀ (j off sz : Nat) ft, fs[j]? = some (off, sz, ft) → ∃ f i, as[j]? = some f ∧ f.offset = off ∧ f.type = ft ∧ C.P.info? ft = some i ∧ i.size = sz) →
            as.mapM (fun f => (C.P.info? f.type).map fun i => (f.offset, i.size)) = some (fs.map fun p => (p.1, p.2.1)) := by
          intro as
          induction as with
          | nil =>
            intro fs hl _
            obtain rfl : fs = [] := List.eq_nil_of_length_eq_zero hl.symm
            rfl
          | cons f as ih =>
            intro fs hl hj
            cases fs with
            | nil => simp at hl
            | cons p fs =>
              obtain ⟨off, sz, ft⟩ := p
              obtain ⟨f', i, q1, q2, q3, q4, q5⟩ := hj 0 off sz ft rfl
              cases q1
              have := ih fs (by simpa using hl) fun j off sz ft hj' => hj (j + 1) off sz ft hj'
              simp only [List.mapM_cons, this, List.map_cons]
              subst q2 q3 q5
              simp [q4]
        refine gen A.toList fs (by simpa using hlen) fun j off sz ft hj => ?_
        obtain ⟨f, i, q1, q2, q3, q4, q5, _⟩ := hA j off sz ft hj
        exact ⟨f, i, by rw [Array.getElem?_toList]; exact q1, q2, q3, q4, q5⟩
      refine key (place := ((fs.map fun p => (p.1, p.2.1)).toArray[·]?)) (fun i off size PT hp => ?_) fun cells hf => ?_
      · simp only [placeOf, hk] at hp
        simp [hp]
      · unfold Program.built
        rw [e1, hu]
        simp only [e3, hpl]
        rw [Array.toList_map]; exact hf

theorem elems_ok {e : TypeId} {size n : Nat} {M : Nat → Prop} (hM : M = F.mine) :
    ∀ (parts : List (Nat × Operand)) (es : List AV) (σ : ASt) (I : Imm) (cells : Array Value), RI F I own σ a w → es.length = n → cells.size = n * size → Lies M I size es (fun o => cells[o]?) →
      ∀ es' τ, elemsGo C e size parts (some (es, σ)) = some (es', τ) → ∃ J cells', Imm.le I J ∧ RI F J own τ a w ∧ es'.length = n ∧ cells'.size = n * size ∧
        Instr.fill (fun i => some (i * size, size)) cells (parts.map fun p => (p.1, a.eval p.2)) = some cells' ∧ Lies M J size es' (fun o => cells'[o]?)
  | [], es, σ, I, cells, h, hn, hc, hx, es', τ, he => by
    cases he
    exact ⟨I, cells, Imm.leRefl I, h, hn, hc, rfl, hx⟩
  | (i, x) :: r, es, σ, I, cells, h, hn, hc, hx, es', τ, he => by
    subst hM
    rw [elemsGo] at he
    have hr := rd_ok h C e x
    cases hi : σ.imm (σ.rd C e x) with
    | none => rw [hi] at he; cases r <;> cases he
    | some q =>
      obtain ⟨y, τ1⟩ := q
      rw [hi, elemIn] at he
      split at he
      · rename_i hcond
        simp only [Bool.and_eq_true, decide_eq_true_eq] at hcond
        obtain ⟨J, j1, j2, j3⟩ := imm_ok h hr hi
        have hvs : (a.eval x).cells.size = size := by rw [← j3.flen]; exact hcond.1
        have hile : i * size + size ≤ n * size := by
          have : (i + 1) * size ≤ n * size := Nat.mul_le_mul_right _ (by omega)
          rw [Nat.add_mul] at this; omega
        obtain ⟨cells1, f1, f2, f3⟩ := fill_step (place := fun i => some (i * size, size)) (i := i) rfl (a.eval x) hvs cells (by rw [hc]; exact hile) (r.map fun p => (p.1, a.eval p.2))
        have hl : Lies F.mine J size (es.set i y) fun o => cells1[o]? := by
          intro k q hk
          rw [List.getElem?_set] at hk
          by_cases e1 : i = k
          · subst e1
            rw [if_pos rfl, if_pos hcond.2] at hk
            cases hk
            refine ⟨a.eval x, j3, hvs, fun j c hj => ?_⟩
            have hjs : j < size := by rw [← hvs]; exact (Array.getElem?_eq_some_iff.1 hj).1
            show cells1[i * size + j]? = some c
            rw [f3, if_pos (by omega), show i * size + j - i * size = j by omega]
            exact hj
          · rw [if_neg e1] at hk
            obtain ⟨v, v1, v2, v3⟩ := hx k q hk
            refine ⟨v, v1.mono (fun _ h => h) j1, v2, fun j c hj => ?_⟩
            have hjs : j < size := by rw [← v2]; exact (Array.getElem?_eq_some_iff.1 hj).1
            show cells1[k * size + j]? = some c
            rw [f3, if_neg]
            · exact v3 j c hj
            · rcases Nat.lt_or_ge i k with h | h
              · have : (i + 1) * size ≤ k * size := Nat.mul_le_mul_right _ h
                rw [Nat.add_mul] at this; omega
              · have : (k + 1) * size ≤ i * size := Nat.mul_le_mul_right _ (by omega)
                rw [Nat.add_mul] at this; omega
        obtain ⟨J2, cells', k1, k2, k3, k4, k5, k6⟩ := elems_ok (n := n) (M := F.mine) rfl r _ τ1 J cells1 j2 (by rw [List.length_set]; exact hn) (by rw [f2]; exact hc) hl es' τ he
        exact ⟨J2, cells', j1.trans k1, k2, k3, k4, by rw [List.map_cons, f1]; exact k5, k6⟩
      · cases r <;> cases he

theorem op_buildSlice (hC : F.C = C) (hok : CfgOk C) (h : RI F I own σ a w) {dst : Option Tmp} {T ty : TypeId} {n : Nat} {parts : Array (Nat × Operand)} {pos : String} {after : Array Edge} {g : Option (Nat × Bool)}
    (hw : (opR C σ dst ty (.buildSlice T n parts)).wp C K) : Oper.wp C.P ⟨dst, .buildSlice T n parts, ty, pos, after, g⟩ a w (Post F K) Q := by
  simp only [opR] at hw
  generalize hq : (C.ti T).kind = kd at hw
  cases kd <;> simp only [bsR] at hw <;> try exact hw.elim
  rename_i e esz eb
  have hchk := chk_ok hw
  clear hw
  obtain ⟨hb, hw⟩ := hchk
  simp only [Bool.and_eq_true, decide_eq_true_eq] at hb
  obtain ⟨hkn, hb1⟩ := hb
  have hfit := (hok.fit T (by rw [hq]; rfl)).kind
  rw [hq] at hfit
  obtain ⟨hu, ie, z, hie, hsz, hby, hb0, hz, hzs, hez⟩ := hfit
  obtain ⟨i2, z2, e1, e2, e3, e4, e5⟩ := zero_ar (hok.fit e hkn) F.mine I
  rw [hie] at e1
  cases e1
  rw [hz] at e3
  cases e3
  have hl := madeCells_lies (n := n) e5 hzs
  cases hbg : elemsGo C e esz parts.toList (some (List.replicate n (C.ti e).zeroVal, σ)) with
  | none => rw [hbg] at hw; exact hw.elim
  | some q =>
    obtain ⟨es', τ⟩ := q
    rw [hbg] at hw
    obtain ⟨J, cells', j1, j2, j3, j4, j5, j6⟩ := elems_ok (M := F.mine) rfl parts.toList _ σ I _ h (by simp) (size_madeCells z.cells (n * esz)) hl es' τ hbg
    have hn1 : n ≤ 16777216 := by
      have : n * 1 ≤ n * esz := Nat.mul_le_mul_left _ hez
      omega
    obtain ⟨h2, hh⟩ := j2.row_new (T := e) (fz := (0, 0)) (sz := esz) (cap := n) (es := es') (cur := cells') (by omega) (by simp only [maxLen]; omega) j4 (fun o _ => by simp) j6
    rw [j3] at hh
    refine by_value (v := .slice (some ⟨w.heap.size, 0, none⟩) n n) (w' := _) ?_ (wr_own hC h2 hw hh)
    have hnl : ¬ (16777216 < n * esz) := by omega
    simp only [madeCells] at j5
    by_cases hne : n * esz = 0
    · have hnl : ¬ (16777216 < 0) := by omega
      rw [hne] at j5
      have hr : (Array.range 0).map (fun x => z.cells[x % z.cells.size]!) = #[] := by simp
      rw [hr] at j5
      simp [execOp, Instr.buildSlice, run_underlying hu, sizeOf, typeInfo, zeroValue, hie, hsz, hz, hne, hnl, newRow]
      rw [show Array.map (fun _ => (default : Value)) (Array.range 0) = #[] by simp, j5]
      simp
    · simp [execOp, Instr.buildSlice, run_underlying hu, sizeOf, typeInfo, zeroValue, hie, hsz, hz, hne, hnl, newRow]
      rw [j5]
      simp

end
end Go.Proofs.Ytjfnmlheehbojaa.VA
