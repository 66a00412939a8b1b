/- Cutting, conversion, new slices, the built-in functions. -/
import Derived.Test.YtjfnmlheehbojaaVaOps4
namespace Go.Proofs.Ytjfnmlheehbojaa.VA
section
variable {F : Fx} {I : Imm} {own : Nat → Option Loc} {σ : ASt} {a : Act} {w w' : World} {C : Cfg} {K : ASt → Prop} {Q : Exit → Act → World → Prop}

theorem run_bounds {P : Program} (isSlice : Bool) {len cap : Nat} {lo hi : Option Value} {l h : Int} (hl : (lo = none ∧ l = 0) ∨ ∃ k, lo = some (.int k l)) (hh : (hi = none ∧ h = len) ∨ ∃ k, hi = some (.int k h))
    (b : (0 ≤ h ∧ h ≤ len) ∧ 0 ≤ l ∧ l ≤ h) (hc : len ≤ cap) : (Instr.sliceBounds isSlice len cap lo hi none).run P w = .ok (l.toNat, h.toNat, cap) w := by
  have e : ((h.toNat : Nat) : Int) = h := by omega
  have h1 : ∀ k code, (Instr.sliceBound (.int k h) cap code).run P w = .ok h.toNat w := fun k code => run_sliceBound w k h cap code b.1.1 (by omega)
  have h2 : ∀ k code, (Instr.sliceBound (.int k l) h.toNat code).run P w = .ok l.toNat w := fun k code => run_sliceBound w k l h.toNat code b.2.1 (by omega)
  rcases hl with ⟨rfl, rfl⟩ | ⟨k, rfl⟩ <;> rcases hh with ⟨rfl, rfl⟩ | ⟨k', rfl⟩
  · simp [Instr.sliceBounds]
  · cases isSlice <;> simp [Instr.sliceBounds, h1]
  · have h2' := h2 k .sliceB
    simp only [Int.toNat_natCast] at h2'
    simp [Instr.sliceBounds, h2']
  · cases isSlice <;> simp [Instr.sliceBounds, h1, h2]

theorem optI_ok (h : RI F I own σ a w) {n : Nat} {x : Option Operand} {k : IntKind} {i : Int} (he : optI C σ n x = .int k i) : (x.map a.eval = none ∧ i = n) ∨ ∃ k, x.map a.eval = some (.int k i) := by
  cases x with
  | none => cases he; exact .inl ⟨rfl, rfl⟩
  | some q =>
    have := rd_ok h C 0 q
    simp only [optI] at he
    rw [he] at this
    exact .inr ⟨k, by rw [Option.map_some, ar_int ((rv_imm rfl).1 this)]⟩

theorem ar_cut {M : Nat → Prop} {fr : Bool} {sz : Nat} {es : List AV} {base : Option Addr} {n cap l h : Nat} (hx : AR M I (.sl fr sz es) (.slice base n cap)) (hlh : l ≤ h) (hh : h ≤ es.length) :
    AR M I (.sl fr sz ((es.drop l).take (h - l))) (sliced base l h cap sz) := by
  cases hx with
  | slnil =>
    have : h = 0 := by simpa using hh
    obtain rfl : l = 0 := by omega
    subst this
    exact .slnil fr sz _ _
  | sl _ _ _ b o _ _ hn hc vs hv hz hI =>
    unfold sliced
    by_cases e : cap = l
    · rw [if_pos e]
      have hlen : ((es.drop l).take (h - l)).length = 0 := by simp; omega
      rw [List.eq_nil_of_length_eq_zero hlen]
      exact .sl fr sz [] b o _ _ (by simp; omega) (by omega) vs (fun i e he => by simp at he) (fun i hi => by simp at hi) (fun i j c hi => by simp at hi)
    · rw [if_neg e]
      have hlen : ((es.drop l).take (h - l)).length = h - l := by simp; omega
      show AR M I _ (.slice (some ((⟨b, o, none⟩ : Addr).add (l * sz))) (h - l) (cap - l))
      rw [Addr.add_lit]
      refine .sl fr sz _ b (o + l * sz) _ _ hlen.symm (by omega) (fun i => vs (l + i)) (fun i e he => ?_) (fun i hi => hz _ (by omega)) (fun i j c hi hj => ?_)
      · have hi : i < h - l := by rw [← hlen]; exact (List.getElem?_eq_some_iff.1 he).1
        rw [List.getElem?_take_of_lt hi, List.getElem?_drop] at he
        exact hv _ e he
      · have := hI (l + i) j c (by omega) hj
        rw [Nat.add_mul] at this
        rw [← this]
        congr 1; omega

theorem bytes_cut (s : List UInt8) (l h : Nat) : (⟨s.toArray⟩ : ByteArray).extract l h = ⟨((s.drop l).take (h - l)).toArray⟩ := by
  apply ByteArray.ext
  simp [List.extract_eq_take_drop]

theorem look_delV (k : Nat) : ∀ (l : List (Nat × List AV)) (j : Nat), look (delV k l) j = if j = k then none else look l j
  | [], j => by simp [delV, look]
  | (i, cs) :: r, j => by
    unfold delV
    split
    · rename_i e
      subst e
      rw [look_delV k r j]
      by_cases e2 : j = k
      · rw [if_pos e2, if_pos e2]
      · rw [if_neg e2, if_neg e2, look, if_neg e2]
    · rename_i e
      simp only [look, look_delV k r j]
      by_cases e2 : j = i
      · subst e2
        rw [if_pos rfl, if_neg (fun e3 => e e3.symm), if_pos rfl]
      · rw [if_neg e2, if_neg e2]

theorem op_slice (hC : F.C = C) (hok : CfgOk C) (h : RI F I own σ a w) {dst : Option Tmp} {T ty : TypeId} {x : Operand} {lo hi : Option Operand} {pos : String} {after : Array Edge} {g : Option (Nat × Bool)}
    (hw : (opR C σ dst ty (.slice T x lo hi none)).wp C K) : Quiet F I C.P ⟨dst, .slice T x lo hi none, ty, pos, after, g⟩ a w (Post F K) := by
  have hx := rd_ok h C T x
  simp only [opR] at hw
  generalize σ.rd C T x = X at hx hw
  generalize hq : (C.ti T).kind = kd at hw
  have sl : ∀ {kd : TK}, (C.ti T).kind = kd → (cutImm C dst lo hi kd (σ.imm X)).wp C K → Quiet F I C.P ⟨dst, .slice T x lo hi none, ty, pos, after, g⟩ a w (Post F K) := by
    intro kd hq hw
    cases kd <;> simp only [cutImm] at hw <;> try exact hw.elim
    rename_i e esz eb
    cases hi' : σ.imm X with
    | none => rw [hi'] at hw; exact hw.elim
    | some q =>
      obtain ⟨y, τ⟩ := q
      rw [hi'] at hw
      cases y <;> simp only at hw <;> try exact hw.elim
      rename_i fr sz es
      have hchk := chk_ok hw
      clear hw
      obtain ⟨h1, hw⟩ := hchk
      simp only [decide_eq_true_eq] at h1
      subst h1
      obtain ⟨J, j1, j2, j3⟩ := imm_ok h hx hi'
      obtain ⟨base, n, cap, hv, hn, hcap, _⟩ := ar_holds j2.imm j3
      rw [hv] at j3
      cases hl : optI C τ 0 lo <;> rw [hl] at hw <;> try (exact hw.elim)
      rename_i kl l
      cases hh : optI C τ es.length hi <;> rw [hh] at hw <;> try (exact hw.elim)
      rename_i kh hi2
      obtain ⟨hb, hw⟩ := hw
      have hfit := (hok.fit T (by rw [hq]; rfl)).kind
      rw [hq] at hfit
      obtain ⟨hu, ie, z, hie, hsz, _⟩ := hfit
      have hbd := fun w2 : World => run_bounds (P := C.P) (w := w2) true (len := n) (cap := cap) (optI_ok j2 hl) (by rw [hn]; exact optI_ok j2 hh) (by rw [hn]; exact hb) hcap
      refine by_q (v := sliced base l.toNat hi2.toNat cap esz) (fun w2 hl2 => ?_) (wr_rv hC j2 hw (ar_cut j3 (by omega) (by omega)))
      simp [execOp, Instr.sliceAt, Instr.slice, run_underlying hu, hv, hbd, sizeOf, typeInfo, hie, hsz, sliced]
  unfold cutR at hw
  split at hw
  · rename_i s
    have es := ar_str ((rv_imm rfl).1 hx)
    have hu := (hok.fit T (by rw [hq]; rfl)).kind
    rw [hq] at hu
    cases hl : optI C σ 0 lo <;> rw [hl] at hw <;> try (exact hw.elim)
    rename_i kl l
    cases hh : optI C σ s.length hi <;> rw [hh] at hw <;> try (exact hw.elim)
    rename_i kh hi2
    obtain ⟨hb, hw⟩ := hw
    have hbd := fun w2 : World => run_bounds (P := C.P) (w := w2) false (len := s.length) (cap := s.length) (optI_ok h hl) (optI_ok h hh) hb (Nat.le_refl _)
    refine by_q (v := .string ⟨((s.drop l.toNat).take (hi2.toNat - l.toNat)).toArray⟩) (fun w2 hl2 => ?_) (wr_rv hC h hw (.str _))
    rw [← bytes_cut]
    rw [← bytes_size s] at hbd
    simp [execOp, Instr.sliceAt, Instr.slice, run_underlying (show C.P.underlying T = some .string from hu), es, hbd]
  · rename_i n e k
    have hchk := chk_ok hw
    clear hw
    obtain ⟨hn, hw⟩ := hchk
    simp only [Bool.and_eq_true, Option.isNone_iff_eq_none] at hn
    obtain ⟨rfl, rfl⟩ := hn
    cases hk : look σ.vars k with
    | none => rw [hk] at hw; exact hw.elim
    | some cs =>
      rw [hk] at hw
      have hchk := chk_ok hw
      clear hw
      obtain ⟨hc, hw⟩ := hchk
      simp only [Bool.and_eq_true, decide_eq_true_eq, List.all_eq_true] at hc
      obtain ⟨⟨⟨hlen, himm⟩, hone⟩, _⟩ := hc
      have hfit := (hok.fit T (by rw [hq]; rfl)).kind
      rw [hq] at hfit
      obtain ⟨hu, ie, hie, hsz, _⟩ := hfit
      obtain ⟨b, hb, hv⟩ := hx cs hk
      obtain ⟨b', e1, e2, e3, e4⟩ := h.boxes k cs hk
      rw [hb] at e1
      cases e1
      have hdel : ∀ j, look (σ.freeVar k).vars j = if j = k then none else look σ.vars j := look_delV k σ.vars
      have h1 : RI F I own (σ.freeVar k) a w := by
        refine h.weaken (fun l x hx => ⟨x, ?_, .inl rfl⟩) fun j cs' hj => ?_
        · cases l with
          | cell j i =>
            simp only [ASt.at, hdel] at hx ⊢
            by_cases e : j = k
            · rw [if_pos e] at hx; cases hx
            · rw [if_neg e] at hx; exact hx
          | _ => exact hx
        · rw [hdel] at hj
          by_cases e : j = k
          · rw [if_pos e] at hj; cases hj
          · rw [if_neg e] at hj; exact ⟨cs', hj, rfl⟩
      have hfree : FreeW (σ.freeVar k) own b := by
        intro l hl
        rw [e2] at hl
        cases hl
        exact ⟨fun _ _ _ e => (by cases e), fun k' e => (by cases e; rw [hdel, if_pos rfl])⟩
      have h2 := h1.immFree (n := n) hfree (h.mine b _ e2).1
      have cell : ∀ (j : Nat) x, cs[j]? = some x → ∃ v, w.cell? ⟨b, j, none⟩ = some v ∧ AR F.mine I x v ∧ v.oneCell' = true := by
        intro j x hx
        have hxm := List.mem_of_getElem? hx
        obtain ⟨v, hv, hr⟩ := h.slots (.cell k j) x (by simp only [ASt.at, hk, cellAt]; exact hx)
        simp only [conc, hb, cellOf] at hv
        obtain ⟨v', hv', h1', _⟩ := e4 j (List.getElem?_eq_some_iff.1 hx).1
        rw [hv] at hv'
        cases hv'
        exact ⟨v, hv, (srep_imm (himm x hxm)).1 hr, h1'⟩
      refine by_q (v := .slice (some ⟨b, 0, none⟩) n n) (fun w2 hl2 => ?_) (wr_rv hC h2 hw ?_)
      · have hadd : (⟨b, 0, none⟩ : Addr).add 0 = ⟨b, 0, none⟩ := by rw [Addr.add_lit]
        simp [execOp, Instr.sliceAt, run_underlying hu, hv, Instr.sureAddr, Instr.sliceBounds, sizeOf, typeInfo, hie, hadd]
      · refine .sl true 1 cs b 0 n n hlen.symm (Nat.le_refl _) (fun j => (w.cell? ⟨b, j, none⟩).getD undef) (fun j x hx => ?_) (fun j hj => ?_) (fun i j c hi hj => ?_)
        · obtain ⟨v, v1, v2, _⟩ := cell j x hx
          rw [v1]
          exact v2.mono (fun _ h => h) (Imm.with_le h1.imm)
        · obtain ⟨v, v1, _, v3⟩ := cell j _ (List.getElem?_eq_getElem hj)
          rw [v1, Option.getD_some, cells_one v3]; rfl
        · obtain ⟨v, v1, _, v3⟩ := cell i _ (List.getElem?_eq_getElem hi)
          rw [v1, Option.getD_some, cells_one v3] at hj
          obtain ⟨rfl, rfl⟩ := get_one hj
          unfold Imm.with
          rw [if_pos ⟨rfl, by omega⟩]
          simpa using v1
  · exact sl hq hw

theorem op_makeFunc (hC : F.C = C) (h : RI F I own σ a w) {P : Program} {dst : Option Tmp} {f : FuncId} {first captured : Array Operand} {ty : TypeId} {pos : String} {after : Array Edge} {g : Option (Nat × Bool)}
    (hw : (opR C σ dst ty (.makeFunc (.func f) first captured)).wp C K) : Quiet F I P ⟨dst, .makeFunc (.func f) first captured, ty, pos, after, g⟩ a w (Post F K) := by
  obtain ⟨l1⟩ := first
  obtain ⟨l2⟩ := captured
  simp only [opR] at hw
  unfold mkFnR at hw
  split at hw
  · exact by_q (v := .func (.func f) #[] #[]) (fun w2 hl2 => by simp [execOp, Instr.makeFunc]) (wr_rv hC h hw (.fn f))
  · rename_i x
    have hx := rd_ok h C 0 x
    generalize hX : σ.rd C 0 x = X at hx hw
    unfold capR at hw
    split at hw
    · rename_i k
      cases hk : look σ.vars k with
      | none => rw [hk] at hw; exact hw.elim
      | some cs =>
        rw [hk] at hw
        have hchk := chk_ok hw
        clear hw
        obtain ⟨himm, hw⟩ := hchk
        simp only [List.all_eq_true] at himm
        obtain ⟨b, hb, hv⟩ := hx cs hk
        obtain ⟨b', e1, e2, e3, e4⟩ := h.boxes k cs hk
        rw [hb] at e1
        cases e1
        have hdel : ∀ j, look (σ.freeVar k).vars j = if j = k then none else look σ.vars j := look_delV k σ.vars
        have h1 : RI F I own (σ.freeVar k) a w := by
          refine h.weaken (fun l x hx => ⟨x, ?_, .inl rfl⟩) fun j cs' hj => ?_
          · cases l with
            | cell j i =>
              simp only [ASt.at, hdel] at hx ⊢
              by_cases e : j = k
              · rw [if_pos e] at hx; cases hx
              · rw [if_neg e] at hx; exact hx
            | _ => exact hx
          · rw [hdel] at hj
            by_cases e : j = k
            · rw [if_pos e] at hj; cases hj
            · rw [if_neg e] at hj; exact ⟨cs', hj, rfl⟩
        have hfree : FreeW (σ.freeVar k) own b := by
          intro l hl
          rw [e2] at hl
          cases hl
          exact ⟨fun _ _ _ e => (by cases e), fun k' e => (by cases e; rw [hdel, if_pos rfl])⟩
        have h2 := h1.immFree (n := cs.length) hfree (h.mine b _ e2).1
        have cell : ∀ (j : Nat) x, cs[j]? = some x → ∃ v, w.cell? ⟨b, j, none⟩ = some v ∧ AR F.mine I x v ∧ v.oneCell' = true := by
          intro j x hx
          have hxm := List.mem_of_getElem? hx
          obtain ⟨v, hv, hr⟩ := h.slots (.cell k j) x (by simp only [ASt.at, hk, cellAt]; exact hx)
          simp only [conc, hb, cellOf] at hv
          obtain ⟨v', hv', h1', _⟩ := e4 j (List.getElem?_eq_some_iff.1 hx).1
          rw [hv] at hv'
          cases hv'
          exact ⟨v, hv, (srep_imm (himm x hxm)).1 hr, h1'⟩
        obtain ⟨vs, hvl, hvs⟩ : ∃ vs : List Value, vs.length = cs.length ∧ ∀ j, j < cs.length → vs[j]? = w.cell? ⟨b, j, none⟩ := by
          refine ⟨(List.range cs.length).map fun j => (w.cell? ⟨b, j, none⟩).getD undef, by simp, fun j hj => ?_⟩
          obtain ⟨v, v1, _⟩ := cell j _ (List.getElem?_eq_getElem hj)
          simp [hj, v1]
        refine by_q (v := .func (.func f) #[] #[.pointer (some ⟨b, 0, none⟩)]) (fun w2 hl2 => by simp [execOp, Instr.makeFunc, hv]) (wr_rv hC h2 hw (.ext _ (I.with w b cs.length) _ (fun _ _ _ e => e) rfl ⟨b, rfl, ?_⟩))
        refine .sl false cs.length [.agg cs] b 0 1 1 rfl (Nat.le_refl _) (fun _ => .agg vs.toArray) (fun i e he => ?_) (fun i hi => by show vs.toArray.size = _; simp [hvl]) (fun i j c hi hj => ?_)
        · match i, he with
          | 0, he =>
            cases he
            refine .agg cs vs.toArray (by simp [hvl]) (fun j v hj => ?_) (fun j c v hc hj => ?_)
            · have hjl : j < cs.length := by have := (Array.getElem?_eq_some_iff.1 hj).1; simpa [hvl] using this
              obtain ⟨u, u1, _, u3⟩ := cell j _ (List.getElem?_eq_getElem hjl)
              rw [List.getElem?_toArray, hvs j hjl, u1] at hj
              cases hj; exact u3
            · have hjl := (List.getElem?_eq_some_iff.1 hc).1
              obtain ⟨u, u1, u2, _⟩ := cell j c hc
              rw [List.getElem?_toArray, hvs j hjl, u1] at hj
              cases hj
              exact (u2.mono (fun _ h => h) (Imm.with_le h1.imm)).any _
        · obtain rfl : i = 0 := by simpa using hi
          have hj : vs.toArray[j]? = some c := hj
          have hjl : j < cs.length := by have := (Array.getElem?_eq_some_iff.1 hj).1; simpa [hvl] using this
          rw [List.getElem?_toArray, hvs j hjl] at hj
          unfold Imm.with
          rw [if_pos ⟨rfl, by omega⟩]
          simpa using hj
    · exact hw.elim
  · exact hw.elim

theorem asU8_ok : ∀ (es : List AV) (s : List UInt8), asU8 es = some s → ∃ ns : List Int, es = ns.map (AV.int .u8) ∧ s = ns.map fun n => UInt8.ofNat n.toNat
  | [], s, h => by cases h; exact ⟨[], rfl, rfl⟩
  | e :: r, s, h => by
    unfold asU8 at h
    split at h
    · cases h; rename_i h1; cases h1
    · rename_i n r' h1
      cases h1
      cases hr : asU8 r with
      | none => rw [hr] at h; cases h
      | some l =>
        rw [hr] at h
        cases h
        obtain ⟨ns, h1, h2⟩ := asU8_ok r l hr
        exact ⟨n :: ns, by rw [h1]; rfl, by rw [h2]; rfl⟩
    · cases h
theorem foldl_push : ∀ (ns : List Int) (r : ByteArray), ns.foldl (fun r n => r.push (UInt8.ofNat n.toNat)) r = ⟨r.data ++ (ns.map fun n => UInt8.ofNat n.toNat).toArray⟩
  | [], r => by simp
  | n :: ns, r => by
    rw [List.foldl_cons, foldl_push ns]
    simp [ByteArray.push]

theorem op_convert (hC : F.C = C) (hok : CfgOk C) (h : RI F I own σ a w) {dst : Option Tmp} {S T ty : TypeId} {x : Operand} {pos : String} {after : Array Edge} {g : Option (Nat × Bool)}
    (hw : (opR C σ dst ty (.convert S T x)).wp C K) : Oper.wp C.P ⟨dst, .convert S T x, ty, pos, after, g⟩ a w (Post F K) Q := by
  have hx := rd_ok h C S x
  simp only [opR] at hw
  generalize σ.rd C S x = X at hx hw
  generalize hq : (C.ti S).kind = ks at hw
  generalize hq' : (C.ti T).kind = kt at hw
  unfold convR at hw
  split at hw
  · rename_i k1 k k2 n
    have e := ar_int ((rv_imm rfl).1 hx)
    have hS := (hok.fit S (by rw [hq]; rfl)).kind
    have hT := (hok.fit T (by rw [hq']; rfl)).kind
    rw [hq] at hS
    rw [hq'] at hT
    refine by_value (w' := w) (v := .int k (k.wrap n)) ?_ (wr_int hC h hw)
    simp [execOp, convert, run_underlying (show C.P.underlying S = some (.int k1) from hS), run_underlying (show C.P.underlying T = some (.int k) from hT), e, Conv.intToInt]
  · rename_i s
    have e := ar_str ((rv_imm rfl).1 hx)
    have hS := (hok.fit S (by rw [hq]; rfl)).kind
    have hT := (hok.fit T (by rw [hq']; rfl)).kind
    rw [hq] at hS
    rw [hq'] at hT
    refine by_value (w' := w) (v := .string ⟨s.toArray⟩) ?_ (wr_str hC h hw)
    simp [execOp, convert, run_underlying (show C.P.underlying S = some .string from hS), run_underlying (show C.P.underlying T = some .string from hT), e]
  · rename_i e0 esz eb s
    have e := ar_str ((rv_imm rfl).1 hx)
    have hS := (hok.fit S (by rw [hq]; rfl)).kind
    have hT := (hok.fit T (by rw [hq']; rfl)).kind
    rw [hq] at hS
    rw [hq'] at hT
    have hchk := chk_ok hw
    clear hw
    obtain ⟨h1, hlen, hw⟩ := hchk
    have hE : C.P.underlying e0 = some (.int .u8) := by
      cases hk : (C.ti e0).kind <;> rw [hk] at h1 <;> try cases h1
      rename_i k
      cases k <;> try cases h1
      have := (hok.fit e0 (by rw [hk]; rfl)).kind
      rw [hk] at this
      exact this
    have hr := run_bytes_of_string (P := C.P) w S T e0 ⟨s.toArray⟩ hS hT.1 hE
    rw [bytes_size] at hr
    have hge := grownCap_ge w s.length 0 e0
    have hcm := grownCap_le_maxLen w s.length 0 e0 (by simp only [maxLen]; omega)
    have hsz : (bytesRow (⟨s.toArray⟩ : ByteArray) (grownCap w s.length 0 e0)).size = grownCap w s.length 0 e0 := by
      simp [bytesRow, bytes_size]; omega
    have hl : Lies F.mine I 1 (s.map u8) fun o => (bytesRow (⟨s.toArray⟩ : ByteArray) (grownCap w s.length 0 e0))[o]? := by
      intro i q hi
      rw [List.getElem?_map] at hi
      cases hs : s[i]? with
      | none => rw [hs] at hi; cases hi
      | some b =>
        rw [hs] at hi
        cases hi
        refine ⟨.int .u8 (b.toNat : Int), .int _ _, rfl, fun j c hj => ?_⟩
        obtain ⟨rfl, rfl⟩ := get_one hj
        have hil := (List.getElem?_eq_some_iff.1 hs).1
        rw [Nat.mul_one, Nat.add_zero]
        show (bytesRow (⟨s.toArray⟩ : ByteArray) (grownCap w s.length 0 e0))[i]? = _
        unfold bytesRow
        rw [Array.getElem?_append_left (by rw [Array.size_map]; exact hil)]
        simp [hs]
    obtain ⟨h2, hh⟩ := (h.grow (fr_drew w)).row_new (T := e0) (fz := ((bytesRow (⟨s.toArray⟩ : ByteArray) (grownCap w s.length 0 e0)).size, (bytesRow (⟨s.toArray⟩ : ByteArray) (grownCap w s.length 0 e0)).size + 1)) (sz := 1) (cap := grownCap w s.length 0 e0) (es := s.map u8)
      (cur := bytesRow (⟨s.toArray⟩ : ByteArray) (grownCap w s.length 0 e0)) (by simpa using hge) hcm (by rw [hsz, Nat.mul_one]) (fun o ho => by simp only; omega) hl
    refine by_value (v := .slice (some ⟨w.heap.size, 0, none⟩) s.length (grownCap w s.length 0 e0)) (w' := _) ?_ (wr_own hC h2 hw (by simpa using hh))
    simp only [execOp, e]
    simp [hr]
  · rename_i e0 esz eb
    have hchk := chk_ok hw
    clear hw
    obtain ⟨h1, hw⟩ := hchk
    have hS := (hok.fit S (by rw [hq]; rfl)).kind
    have hT := (hok.fit T (by rw [hq']; rfl)).kind
    rw [hq] at hS
    rw [hq'] at hT
    have hE : C.P.underlying e0 = some (.int .u8) := by
      cases hk : (C.ti e0).kind <;> rw [hk] at h1 <;> try cases h1
      rename_i k
      cases k <;> try cases h1
      have := (hok.fit e0 (by rw [hk]; rfl)).kind
      rw [hk] at this
      exact this
    cases hc : σ.cont X with
    | none => rw [hc] at hw; exact hw.elim
    | some p =>
      obtain ⟨sz, es⟩ := p
      rw [hc] at hw
      unfold convCont at hw
      split at hw
      · rename_i es' he'
        cases he'
        cases hs : asU8 es with
        | none => rw [hs] at hw; exact hw.elim
        | some s =>
          rw [hs] at hw
          obtain ⟨base, n, cap, hv, hH⟩ := cont_ok h hx hc
          obtain ⟨ns, hes, hss⟩ := asU8_ok es s hs
          refine by_value (w' := w) (v := .string ⟨s.toArray⟩) ?_ (wr_str hC h hw)
          have hcv := run_convert_bytes_string (P := C.P) w S T e0 base n cap hS.1 hE hT
          have hbs : (Conv.bytesToString (.slice base n cap)).run C.P w = .ok (.string ⟨s.toArray⟩) w := by
            cases base with
            | none =>
              have : es = [] := by
                cases es with
                | nil => rfl
                | cons e r =>
                  obtain ⟨b, o, h1, _⟩ := hH.at_ 0 e rfl
                  cases h1
              subst this
              cases hs
              simp [Conv.bytesToString]
              rfl
            | some p =>
              have hl : (loadCells p n).run C.P w = .ok (ns.map (Value.int .u8)).toArray w := by
                have := run_loadCells_list (P := C.P) w p (ns.map (Value.int .u8)) (fun j v hj => by
                  rw [List.getElem?_map] at hj
                  cases hn : ns[j]? with
                  | none => rw [hn] at hj; cases hj
                  | some m =>
                    rw [hn] at hj
                    cases hj
                    obtain ⟨b, o, h1, h2⟩ := hH.at_ j (.int .u8 m) (by rw [hes, List.getElem?_map, hn]; rfl)
                    cases h1
                    obtain ⟨v, h3, h4, h5⟩ := h2 j (.int .u8 m) (by rw [hes, List.getElem?_map, hn]; rfl)
                    have h6 := ar_int h3
                    subst h6
                    have := h5 0 (.int .u8 m) rfl
                    rw [Addr.add_lit]
                    simpa using this)
                rw [List.length_map] at this
                rw [hH.n_eq, hes, List.length_map]
                exact this
              rw [run_bytesToString w p n cap ns hl, foldl_push, hss]
              have he0 : ByteArray.empty.data = #[] := rfl
              rw [he0]
              simp
          simp [execOp, hv, hcv, hbs]
      · exact hw.elim
  · exact hw.elim

end
end Go.Proofs.Ytjfnmlheehbojaa.VA
