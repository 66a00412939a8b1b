/- New slices, and the built-in functions. -/
import Derived.Test.YtjfnmlheehbojaaVaOps5
namespace Go.Proofs.Ytjfnmlheehbojaa.VA
section
variable {F : Fx} {I : Imm} {own : Nat → Option Loc} {σ : ASt} {a : Act} {w w' : World} {C : Cfg} {K : ASt → Prop} {Q : Exit → Act → World → Prop}

theorem zero_one {x : AV} {v : Value} (h : zeroIs x v) : v.oneCell' = true := by
  cases x <;> simp only [zeroIs] at h <;> first | exact h.elim | (subst h; rfl) | (rw [h.2]; rfl)
theorem zero_cell {M : Nat → Prop} {x : AV} {v : Value} (h : zeroIs x v) : AR M I x.frz v := by
  cases x <;> simp only [zeroIs] at h
  case int k n => subst h; exact .int k n
  case bool b => subst h; exact .bool b
  case str s => subst h; exact .str s
  case nilf => subst h; exact .nilf
  case own sh sz es => obtain ⟨rfl, rfl⟩ := h; exact .slnil true sz none 0
theorem zero_cell0 {M : Nat → Prop} {x : AV} {v : Value} (h : zeroIs x v) : AR M I x.frz0 v := by
  cases x <;> simp only [zeroIs] at h
  case int k n => subst h; exact .int k n
  case bool b => subst h; exact .bool b
  case str s => subst h; exact .str s
  case nilf => subst h; exact .nilf
  case own sh sz es => obtain ⟨rfl, rfl⟩ := h; exact .ext nilP I _ (fun _ _ _ e => e) rfl rfl
/-- The zero of a type that has parts. -/
theorem zero_ar0 {P : Program} {ti : TypeId → TI} {T : TypeId} (h : Fit P ti T) (hk : (ti T).kind.isAgg = true) (M : Nat → Prop) (I : Imm) :
    ∃ i z, P.info? T = some i ∧ i.size = (ti T).size ∧ i.zero = some z ∧ z.cells.size = (ti T).size ∧ AR M I (.agg ((ti T).zero.map AV.frz0)) z := by
  obtain ⟨i, z, e1, e2, e3, e4, e5, e6, e7, e8⟩ := h.info
  refine ⟨i, z, e1, e2, e3, e4, ?_⟩
  obtain ⟨cs, rfl⟩ := e7 hk
  have e4' : cs.size = (ti T).size := e4
  refine .agg _ _ (by rw [List.length_map, e5, e4']) (fun j v hv => ?_) (fun j c v hc hv => ?_)
  · have hj : j < (ti T).zero.length := by rw [e5, ← e4']; exact (Array.getElem?_eq_some_iff.1 hv).1
    exact zero_one (e6 j _ v (List.getElem?_eq_getElem hj) hv)
  · rw [List.getElem?_map] at hc
    cases hx : (ti T).zero[j]? with
    | none => rw [hx] at hc; cases hc
    | some x =>
      rw [hx] at hc
      cases hc
      exact zero_cell0 (e6 j x v hx hv)
/-- The zero of a type. -/
theorem zero_ar {P : Program} {ti : TypeId → TI} {T : TypeId} (h : Fit P ti T) (M : Nat → Prop) (I : Imm) :
    ∃ i z, P.info? T = some i ∧ i.size = (ti T).size ∧ i.zero = some z ∧ z.cells.size = (ti T).size ∧ AR M I (ti T).zeroVal z := by
  obtain ⟨i, z, e1, e2, e3, e4, e5, e6, e7, e8⟩ := h.info
  refine ⟨i, z, e1, e2, e3, e4, ?_⟩
  unfold TI.zeroVal
  cases hk : (ti T).kind.isAgg with
  | true =>
    rw [if_pos rfl]
    obtain ⟨cs, rfl⟩ := e7 hk
    have e4' : cs.size = (ti T).size := e4
    refine .agg _ _ (by rw [List.length_map, e5, e4']) (fun j v hv => ?_) (fun j c v hc hv => ?_)
    · have hj : j < (ti T).zero.length := by rw [e5, ← e4']; exact (Array.getElem?_eq_some_iff.1 hv).1
      exact zero_one (e6 j _ v (List.getElem?_eq_getElem hj) hv)
    · rw [List.getElem?_map] at hc
      cases hx : (ti T).zero[j]? with
      | none => rw [hx] at hc; cases hc
      | some x =>
        rw [hx] at hc
        cases hc
        exact zero_cell (e6 j x v hx hv)
  | false =>
    rw [if_neg (by simp)]
    obtain ⟨hs, h1⟩ := e8 hk
    rw [hs] at e5
    match hz : (ti T).zero, e5 with
    | [x], _ =>
      exact zero_cell (e6 0 x z (by rw [hz]; rfl) (by rw [cells_one h1]; rfl))

theorem madeCells_lies {M : Nat → Prop} {z : Value} {e : AV} {sz n : Nat} (h : AR M I e z) (hs : z.cells.size = sz) : Lies M I sz (List.replicate n e) fun o => (madeCells z.cells (n * sz))[o]? := by
  intro i x hx
  have hi : i < n := by
    have := (List.getElem?_eq_some_iff.1 hx).1
    simpa using this
  rw [List.getElem?_replicate, if_pos hi] at hx
  cases hx
  refine ⟨z, h, hs, fun j c hj => ?_⟩
  have hjs : j < sz := by rw [← hs]; exact (Array.getElem?_eq_some_iff.1 hj).1
  have hlt : i * sz + j < n * sz := idx_lt hi hjs
  show (madeCells z.cells (n * sz))[i * sz + j]? = some c
  unfold madeCells
  rw [Array.getElem?_map, Array.getElem?_range, if_pos hlt]
  have hm : (i * sz + j) % z.cells.size = j := by rw [hs, Nat.mul_comm, Nat.mul_add_mod, Nat.mod_eq_of_lt hjs]
  simp only [Option.map_some, hm, Option.some.injEq]
  obtain ⟨h1, h2⟩ := Array.getElem?_eq_some_iff.1 hj
  rw [← h2]
  exact getElem!_pos z.cells j h1

theorem op_makeSlice (hC : F.C = C) (hok : CfgOk C) (h : RI F I own σ a w) {dst : Option Tmp} {T ty : TypeId} {l c : Operand} {pos : String} {after : Array Edge} {g : Option (Nat × Bool)}
    (hw : (opR C σ dst ty (.makeSlice T l c)).wp C K) : Oper.wp C.P ⟨dst, .makeSlice T l c, ty, pos, after, g⟩ a w (Post F K) Q := by
  have hl := rd_ok h C 0 l
  have hc := rd_ok h C 0 c
  simp only [opR] at hw
  generalize σ.rd C 0 l = L at hl hw
  generalize σ.rd C 0 c = R at hc hw
  generalize hq : (C.ti T).kind = kd at hw
  unfold makeR at hw
  split at hw
  · rename_i e esz eb n m
    have el := ar_int ((rv_imm rfl).1 hl)
    have ec := ar_int ((rv_imm rfl).1 hc)
    have hchk := chk_ok hw
    clear hw
    obtain ⟨hkn, ⟨rfl, h0, hb⟩, hw⟩ := hchk
    have hfit := (hok.fit T (by rw [hq]; rfl)).kind
    rw [hq] at hfit
    obtain ⟨hu, ie, z, hie, hsz, hby, hb0, hz, hzs, _⟩ := hfit
    obtain ⟨i2, z2, e1, e2, e3, e4, e5⟩ := zero_ar (hok.fit e hkn) F.mine I
    rw [hie] at e1
    cases e1
    rw [hz] at e3
    cases e3
    have hn : n.toNat * 1 ≤ n.toNat * eb := Nat.mul_le_mul_left _ hb0
    have hbi : (ie.bytes : Int) * n ≤ 281474976710656 := by
      rw [hby]
      have : ((n.toNat * eb : Nat) : Int) ≤ 281474976710656 := by omega
      rw [Int.natCast_mul, Int.toNat_of_nonneg h0, Int.mul_comm] at this
      exact this
    have hr := run_make (P := C.P) w T e ie z hu hie hz .i64 .i64 n n h0 (Int.le_refl _) hbi (by omega)
    rw [hsz] at hr
    obtain ⟨h2, hh⟩ := h.row_new (T := e) (fz := (0, 0)) (sz := esz) (cap := n.toNat) (es := List.replicate n.toNat (C.ti e).zeroVal) (cur := madeCells z.cells (n.toNat * esz)) (by simp) (by simp only [maxLen]; omega)
      (by rw [size_madeCells]) (fun o _ => by simp) (madeCells_lies e5 hzs)
    refine by_value (v := .slice (some ⟨w.heap.size, 0, none⟩) n.toNat n.toNat) (w' := _) ?_ (wr_own hC h2 hw (by simpa using hh))
    simp only [execOp, el, ec]
    simp [hr]
  · exact hw.elim

theorem exec_builtin (ρ : Operand → Value) (dst : Option Tmp) (c : Call) (b : Builtin) (hb : c.callee = .builtin b) (ty : TypeId) (pos : String) (after : Array Edge) (guard : Option (Nat × Bool)) :
    execOp ρ { dst, op := .call c, type := ty, pos, after, guard } = builtin b c.argTypes ty (c.args.map fun | .const _ => true | _ => false) (c.args.map ρ) := by
  obtain ⟨callee, args, ts⟩ := c
  simp only at hb
  subst hb
  exact BigFrame.execOp_builtin ρ dst b args ts ty pos after guard

theorem op_len (hC : F.C = C) (hok : CfgOk C) (h : RI F I own σ a w) {dst : Option Tmp} {ty : TypeId} {c : Call} (hb : c.callee = .builtin .len) {pos : String} {after : Array Edge} {g : Option (Nat × Bool)}
    (hw : (opR C σ dst ty (.call c)).wp C K) : Quiet F I C.P ⟨dst, .call c, ty, pos, after, g⟩ a w (Post F K) := by
  simp only [opR, hb, callR] at hw
  unfold callLen at hw
  split at hw
  case h_2 => exact hw.elim
  rename_i x S hxs hts
  have hx := rd_ok h C S x
  generalize σ.rd C S x = X at hx hw
  generalize hq : (C.ti S).kind = ks at hw
  have run : ∀ {w : World} {v : Value}, (Builtin.len_ #[S] ty #[a.eval x]).run C.P w = .ok v w → (execOp a.eval ⟨dst, .call c, ty, pos, after, g⟩).run C.P w = .ok (.value v) w := by
    intro w v hv
    rw [exec_builtin a.eval dst c .len hb ty pos after g, BigFrame.builtin_len]
    have e1 : c.argTypes = #[S] := by rw [← Array.toList_inj, hts]
    have e2 : c.args.map a.eval = #[a.eval x] := by rw [← Array.toList_inj, Array.toList_map, hxs]; rfl
    rw [e1, e2]
    simp [hv]
  unfold lenR at hw
  split at hw
  · rename_i s
    have e := ar_str ((rv_imm rfl).1 hx)
    have hS := (hok.fit S (by rw [hq]; rfl)).kind
    rw [hq] at hS
    refine by_q (v := .int .i64 s.length) (fun w2 hl2 => run ?_) (wr_int hC h hw)
    simp [Builtin.len_, run_underlying (show C.P.underlying S = some .string from hS), e, goInt, bytes_size]
  · rename_i e esz eb
    cases hc : σ.cont X with
    | none => rw [hc] at hw; exact hw.elim
    | some p =>
      obtain ⟨sz, es⟩ := p
      rw [hc] at hw
      obtain ⟨base, n, cap, hv, hH⟩ := cont_ok h hx hc
      have hS := (hok.fit S (by rw [hq]; rfl)).kind
      rw [hq] at hS
      refine by_q (v := .int .i64 es.length) (fun w2 hl2 => run ?_) (wr_int hC h hw)
      simp [Builtin.len_, run_underlying hS.1, hv, goInt, hH.n_eq]
  · exact hw.elim

theorem op_max (hC : F.C = C) (h : RI F I own σ a w) {dst : Option Tmp} {ty : TypeId} {c : Call} (hb : c.callee = .builtin .max) {pos : String} {after : Array Edge} {g : Option (Nat × Bool)}
    (hw : (opR C σ dst ty (.call c)).wp C K) : Quiet F I C.P ⟨dst, .call c, ty, pos, after, g⟩ a w (Post F K) := by
  simp only [opR, hb, callR] at hw
  unfold callMax at hw
  split at hw
  case h_2 => exact hw.elim
  rename_i x y hxs
  have hx := rd_ok h C ty x
  have hy := rd_ok h C ty y
  generalize σ.rd C ty x = X at hx hw
  generalize σ.rd C ty y = Y at hy hw
  unfold maxR at hw
  split at hw
  · rename_i k m q n
    have e1 := ar_int ((rv_imm rfl).1 hx)
    have e2 := ar_int ((rv_imm rfl).1 hy)
    refine by_q (v := .int k (if n > m then n else m)) (fun w2 hl2 => ?_) (wr_int hC h hw)
    rw [exec_builtin a.eval dst c .max hb ty pos after g, BigFrame.builtin_max]
    have e3 : c.args.map a.eval = #[a.eval x, a.eval y] := by rw [← Array.toList_inj, Array.toList_map, hxs]; rfl
    rw [e3, e1, e2]
    simp [Builtin.max_, Builtin.max2]
  · exact hw.elim

/-- What a slice in memory is laid behind a row. -/
theorem src_of {P : Program} {sz : Nat} {xs : List AV} {base : Option Addr} {n cap : Nat} (hH : Holds F I w sz xs base n cap) : ∃ news, Src P w sz (.slice base n cap) xs.length news ∧ Lies F.mine I sz xs fun o => news[o]? := by
  have hn := hH.n_eq
  subst hn
  cases hxs : xs with
  | nil =>
    refine ⟨[], ⟨fun w' => by simp [Builtin.lenOf], fun w' _ => ?_, by simp, fun v hv => by cases hv⟩, fun i e he => by simp at he⟩
    cases base with
    | none => simp [Builtin.firstCells]
    | some p => exact run_firstCells_some w' sz 0 p _ cap [] (by simp) fun j v hj => by simp at hj
  | cons e0 r =>
    obtain ⟨b, o, rfl, hl⟩ := hH.at_ 0 e0 (by rw [hxs]; rfl)
    rw [← hxs]
    have cell : ∀ q, q < xs.length * sz → ∃ v, w.cell? ⟨b, o + q, none⟩ = some v ∧ v.oneCell' = true := by
      intro q hq
      have hsz : 0 < sz := by
        rcases Nat.eq_zero_or_pos sz with h | h
        · rw [h] at hq; omega
        · exact h
      have hi : q / sz < xs.length := Nat.div_lt_of_lt_mul (by rw [Nat.mul_comm]; exact hq)
      obtain ⟨v, v1, v2, v3⟩ := hl (q / sz) _ (List.getElem?_eq_getElem hi)
      have hj : q % sz < v.cells.size := by rw [v2]; exact Nat.mod_lt _ hsz
      have hc := v3 (q % sz) _ (Array.getElem?_eq_getElem hj)
      simp only at hc
      rw [show q / sz * sz + q % sz = q by rw [Nat.mul_comm]; exact Nat.div_add_mod q sz] at hc
      exact ⟨_, hc, v1.one _ _ (Array.getElem?_eq_getElem hj)⟩
    refine ⟨(List.range (xs.length * sz)).map fun q => (w.cell? ⟨b, o + q, none⟩).getD undef, ⟨fun w' => by simp [Builtin.lenOf], fun w' hw' => ?_, by simp, fun v hv => ?_⟩, hl.weak fun q c hq hc => ?_⟩
    · refine run_firstCells_some w' sz xs.length ⟨b, o, none⟩ _ cap _ (by simp) fun j v hj => ?_
      have hjl : j < xs.length * sz := by
        have := (List.getElem?_eq_some_iff.1 hj).1
        simpa using this
      obtain ⟨u, hu, _⟩ := cell j hjl
      rw [List.getElem?_map, List.getElem?_range hjl] at hj
      simp only [Option.map_some, hu, Option.getD_some, Option.some.injEq] at hj
      subst hj
      rw [hw', Addr.add_lit]; exact hu
    · obtain ⟨q, hq, rfl⟩ := List.mem_map.1 hv
      obtain ⟨u, hu, h1⟩ := cell q (List.mem_range.1 hq)
      rw [hu]; exact h1
    · rw [List.getElem?_map, List.getElem?_range hq]
      simp [hc]
theorem src_str {P : Program} {M : Nat → Prop} (s : List UInt8) : ∃ news, Src P w 1 (.string ⟨s.toArray⟩) (s.map u8).length news ∧ Lies M I 1 (s.map u8) fun o => news[o]? := by
  refine ⟨s.map fun b => .int .u8 (b.toNat : Int), ⟨fun w' => by simp [Builtin.lenOf, bytes_size], fun w' _ => ?_, by simp, fun v hv => ?_⟩, fun i q hi => ?_⟩
  · have : (⟨s.toArray⟩ : ByteArray).extract 0 (s.map u8).length = ⟨s.toArray⟩ := by
      rw [bytes_cut]; simp
    simp only [Builtin.firstCells]
    rw [this]
    simp
  · obtain ⟨b, _, rfl⟩ := List.mem_map.1 hv
    rfl
  · rw [List.getElem?_map] at hi
    cases hs : s[i]? with
    | none => rw [hs] at hi; cases hi
    | some b =>
      rw [hs] at hi
      cases hi
      refine ⟨.int .u8 (b.toNat : Int), .int _ _, rfl, fun j c hj => ?_⟩
      obtain ⟨rfl, rfl⟩ := get_one hj
      show (s.map fun b => Value.int .u8 (b.toNat : Int))[i * 1 + 0]? = _
      rw [Nat.mul_one, Nat.add_zero, List.getElem?_map, hs]; rfl

theorem appSrc_ok {P : Program} (h : RI F I own σ a w) {x : AV} {v : Value} {sz : Nat} {xs : List AV} (hx : RV F I own σ a w x v) (he : appSrc σ x = some (sz, xs)) :
    ∃ news, Src P w sz v xs.length news ∧ Lies F.mine I sz xs fun o => news[o]? := by
  cases x <;> simp only [appSrc] at he
  case str s =>
    cases he
    rw [ar_str ((rv_imm rfl).1 hx)]
    exact src_str s
  all_goals
    obtain ⟨base, n, cap, rfl, hH⟩ := cont_ok h hx he
    have hn := hH.n_eq
    exact src_of hH

theorem appKind_ok (hok : CfgOk C) {T : TypeId} (h : appKind (C.ti T).kind = true) : ∃ d, C.P.underlying T = some d ∧ ∀ k, d ≠ .int k := by
  cases hk : (C.ti T).kind <;> rw [hk] at h <;> try cases h
  · have := (hok.fit T (by rw [hk]; rfl)).kind
    rw [hk] at this
    exact ⟨_, this, fun k e => by cases e⟩
  · have := (hok.fit T (by rw [hk]; rfl)).kind
    rw [hk] at this
    exact ⟨_, this.1, fun k e => by cases e⟩

theorem op_append (hC : F.C = C) (hok : CfgOk C) (h : RI F I own σ a w) {dst : Option Tmp} {ty : TypeId} {c : Call} (hb : c.callee = .builtin .append) {pos : String} {after : Array Edge} {g : Option (Nat × Bool)}
    (hw : (opR C σ dst ty (.call c)).wp C K) : Oper.wp C.P ⟨dst, .call c, ty, pos, after, g⟩ a w (Post F K) Q := by
  simp only [opR, hb, callR] at hw
  unfold callApp at hw
  split at hw
  case h_2 => exact hw.elim
  rename_i s x S X hxs hts
  have hchk := chk_ok hw
  clear hw
  obtain ⟨hak, hw⟩ := hchk
  have hs := rd_ok h C S s
  have hx := rd_ok h C X x
  generalize σ.rd C S s = A at hs hw
  generalize σ.rd C X x = B at hx hw
  generalize hq : (C.ti S).kind = ks at hw
  cases ks <;> simp only [appR] at hw <;> try exact hw.elim
  rename_i e esz eb
  have hfit := (hok.fit S (by rw [hq]; rfl)).kind
  rw [hq] at hfit
  obtain ⟨hu, ie, z, hie, hsz, hby, hb0, hz, hzs, _⟩ := hfit
  obtain ⟨d', ht', hd⟩ := appKind_ok hok hak
  have run : ∀ {v : Value} {w' : World}, (Builtin.append_ #[S, X] ty #[a.eval s, a.eval x]).run C.P w = .ok v w' → (execOp a.eval ⟨dst, .call c, ty, pos, after, g⟩).run C.P w = .ok (.value v) w' := by
    intro v w' hv
    rw [exec_builtin a.eval dst c .append hb ty pos after g, BigFrame.builtin_append]
    have e1 : c.argTypes = #[S, X] := by rw [← Array.toList_inj, hts]
    have e2 : c.args.map a.eval = #[a.eval s, a.eval x] := by rw [← Array.toList_inj, Array.toList_map, hxs]; rfl
    rw [e1, e2]
    simp [hv]
  cases hsrc : appSrc σ B with
  | none => rw [hsrc] at hw; unfold appTo at hw; cases A <;> simp only at hw <;> first | exact hw.elim | (rename_i es; cases es <;> exact hw.elim)
  | some p =>
    obtain ⟨zx, xs⟩ := p
    rw [hsrc] at hw
    obtain ⟨news, hS, hL⟩ := appSrc_ok (P := C.P) h hx hsrc
    unfold appTo at hw
    split at hw
    · rename_i sh0 sz0 zx' xs' he
      cases he
      have hchk := chk_ok hw
      clear hw
      obtain ⟨h1, h2, hw⟩ := hchk
      simp only [decide_eq_true_eq] at h1
      subst h1
      obtain ⟨rfl, _, hv⟩ := hs
      obtain ⟨v', w', J, hr, j1, j2, j3⟩ := append_hand (ty := ty) (sh := false) (es := []) (v := a.eval s) hu hie hz ht' hd hsz hzs (by omega) h (.inl ⟨hv, rfl⟩) hS hL (by simpa [hby] using h2)
      exact by_value (run hr) (wr_own hC j2 hw (by simpa using j3))
    · rename_i l zx' xs' he
      cases he
      have hchk := chk_ok hw
      clear hw
      obtain ⟨h1, hw⟩ := hchk
      simp only [decide_eq_true_eq] at h1
      subst h1
      cases hl : σ.at l with
      | none => rw [hl] at hw; exact hw.elim
      | some q =>
        rw [hl] at hw
        cases q <;> simp only [appRef] at hw <;> try exact hw.elim
        rename_i sh sz es
        have hchk := chk_ok hw
        clear hw
        obtain ⟨h1, h2, hw⟩ := hchk
        simp only [decide_eq_true_eq] at h1
        subst h1
        obtain ⟨u, k1, k2, k3⟩ := h.inHand hl
        have hv : conc a w l = some (a.eval s) := hs sh sz es hl
        rw [k1] at hv
        cases hv
        obtain ⟨v', w', J, hr, j1, j2, j3⟩ := append_hand (ty := ty) hu hie hz ht' hd hsz hzs (by omega) k2 k3 hS hL (by simpa [hby] using h2)
        exact by_value (run hr) (wr_own hC j2 hw j3)
    · rename_i p zx' xs' he
      cases he
      obtain ⟨rfl, hw⟩ := hw
      have hchk := chk_ok hw
      clear hw
      obtain ⟨h1, h2, hw⟩ := hchk
      simp only [decide_eq_true_eq] at h1
      subst h1
      have hv : a.eval s = .slice none 0 0 := by
        have ha : AR F.mine I (.ext nilP) (a.eval s) := (rv_imm rfl).1 hs
        generalize a.eval s = u at ha
        cases ha with
        | ext _ _ _ _ _ hp => exact hp
      obtain ⟨v', w', J, hr, j1, j2, j3⟩ := append_hand (ty := ty) (sh := false) (es := []) (v := a.eval s) hu hie hz ht' hd hsz hzs (by omega) h (.inl ⟨hv, rfl⟩) hS hL (by simpa [hby] using h2)
      exact by_value (run hr) (wr_own hC j2 hw (by simpa using j3))
    · exact hw.elim

end
end Go.Proofs.Ytjfnmlheehbojaa.VA
