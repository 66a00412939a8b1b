/- Operations that compute. -/
import Derived.Test.YtjfnmlheehbojaaVaOps2
import Derived.Great.BuildSlice
import Derived.ChangeKeysEq
import Derived.Laws.Cover3
namespace Go.Proofs.Ytjfnmlheehbojaa.VA
section
variable {F : Fx} {I : Imm} {own : Nat → Option Loc} {σ : ASt} {a : Act} {w w' : World} {C : Cfg} {K : ASt → Prop} {Q : Exit → Act → World → Prop}

theorem wr_int (hC : F.C = C) (h : RI F I own σ a w) {d : Option Nat} {k : IntKind} {n : Int} (hw : (σ.wr C d (.int k n)).wp C K) : Post F K (a.put d (.int k n)) w := wr_rv hC h hw (.int k n)
theorem wr_bool (hC : F.C = C) (h : RI F I own σ a w) {d : Option Nat} {b : Bool} (hw : (σ.wr C d (.bool b)).wp C K) : Post F K (a.put d (.bool b)) w := wr_rv hC h hw (.bool b)
theorem wr_str (hC : F.C = C) (h : RI F I own σ a w) {d : Option Nat} {s : List UInt8} (hw : (σ.wr C d (.str s)).wp C K) : Post F K (a.put d (.string ⟨s.toArray⟩)) w := wr_rv hC h hw (.str s)

theorem binInt_ok {op : BinOp} {k : IntKind} {x y : Int} {v : AV} (hv : binInt op k x y = some v) {P : Program} {T : TypeId} : ∃ u, (∀ w2 : World, (binOp op T (.int k x) (.int k y)).run P w2 = .ok u w2) ∧ ∀ M, AR M I v u := by
  cases op <;> simp only [binInt, Option.some.injEq] at hv <;> try cases hv
  case add => exact ⟨_, fun w2 => by simp [binOp, Op.intArith], fun M => .int _ _⟩
  case sub => exact ⟨_, fun w2 => by simp [binOp, Op.intArith], fun M => .int _ _⟩
  case mul => exact ⟨_, fun w2 => by simp [binOp, Op.intArith], fun M => .int _ _⟩
  case and => exact ⟨_, fun w2 => by simp [binOp, Op.intBits], fun M => .int _ _⟩
  case or => exact ⟨_, fun w2 => by simp [binOp, Op.intBits], fun M => .int _ _⟩
  case xor => exact ⟨_, fun w2 => by simp [binOp, Op.intBits], fun M => .int _ _⟩
  case eql => exact ⟨_, fun w2 => by simp [binOp, Op.intCmp], fun M => .bool _⟩
  case neq => exact ⟨_, fun w2 => by simp [binOp, Op.intCmp], fun M => .bool _⟩
  case lss => exact ⟨_, fun w2 => by simp [binOp, Op.intCmp], fun M => .bool _⟩
  case leq => exact ⟨_, fun w2 => by simp [binOp, Op.intCmp], fun M => .bool _⟩
  case gtr => exact ⟨_, fun w2 => by simp [binOp, Op.intCmp], fun M => .bool _⟩
  case geq => exact ⟨_, fun w2 => by simp [binOp, Op.intCmp], fun M => .bool _⟩

theorem guard_none {P : Program} {op : BinOp} {T : TypeId} {x y : Operand} {u v : Value} (h1 : ∀ cs, u ≠ .agg cs) (h2 : u ≠ .nilIface) : (eqGuard op T x y u v).run P w = .ok () w := by
  unfold eqGuard
  by_cases ho : (!(match op with | .eql | .neq => true | _ => false)) = true
  · cases op <;> simp at ho ⊢
  · cases u <;> first | exact absurd rfl h2 | exact absurd rfl (h1 _) | (cases op <;> simp at ho ⊢)

theorem run_bin {P : Program} {dst : Option Tmp} {op : BinOp} {T T2 ty : TypeId} {x y : Operand} {pos : String} {after : Array Edge} {g : Option (Nat × Bool)} {u : Value}
    (h1 : ∀ cs, a.eval x ≠ .agg cs) (h2 : a.eval x ≠ .nilIface) (hr : (binOp op T (a.eval x) (a.eval y)).run P w = .ok u w) :
    (execOp a.eval ⟨dst, .binOp op T x y T2, ty, pos, after, g⟩).run P w = .ok (.value u) w := by
  simp [execOp, guard_none h1 h2, hr]

theorem bytes_eq (s : List UInt8) : (⟨s.toArray⟩ : ByteArray).toList = s := by simp
theorem bytes_size (s : List UInt8) : (⟨s.toArray⟩ : ByteArray).size = s.length := rfl
theorem bytes_app (s t : List UInt8) : (⟨s.toArray⟩ : ByteArray) ++ ⟨t.toArray⟩ = ⟨(s ++ t).toArray⟩ := by
  apply ByteArray.ext
  simp

theorem part_int {P : Program} {e : TypeId} {q : IntKind} (he : P.underlying e = some (.int q)) (us : Array Value) (k : Nat) {u : Value} (h : us[k]? = some u) : (part e us (k * 1)).run P w = .ok u w := by
  simp [part, isAgg, run_underlying he, h]

theorem eqItems_ints {P : Program} {e : TypeId} {q : IntKind} (he : P.underlying e = some (.int q)) (d : Nat) {M : Nat → Prop} (us vs : Array Value) : ∀ (xs ys : List AV) (r : Bool), AV.eqInts xs ys = some r → ∀ k,
    (∀ (j : Nat) c, xs[j]? = some c → ∃ v, us[k + j]? = some v ∧ AR M I c v) → (∀ (j : Nat) c, ys[j]? = some c → ∃ v, vs[k + j]? = some v ∧ AR M I c v) →
    (Op.eqItems (d + 1) e 1 us vs (List.range' k xs.length)).run P w = .ok r w := by
  have step : ∀ (k n m : Int) (q1 q2 : IntKind) (i : Nat), (∃ v, us[i]? = some v ∧ AR M I (.int q1 n) v) → (∃ v, vs[i]? = some v ∧ AR M I (.int q2 m) v) → q1 = q2 →
      ∃ u v, (part e us (i * 1)).run P w = .ok u w ∧ (part e vs (i * 1)).run P w = .ok v w ∧ (Op.equalIn (d + 1) e u v).run P w = .ok (n == m) w := by
    rintro k n m q1 q2 i ⟨u, hu, hu'⟩ ⟨v, hv, hv'⟩ rfl
    rw [ar_int hu'] at hu
    rw [ar_int hv'] at hv
    exact ⟨_, _, part_int he us i hu, part_int he vs i hv, run_equalIn_int w d e _ q n m he⟩
  intro xs
  induction xs with
  | nil => intro ys r h; cases ys <;> simp [AV.eqInts] at h
  | cons x xs ih =>
    intro ys r h k hx hy
    cases ys with
    | nil => cases x <;> cases xs <;> simp [AV.eqInts] at h
    | cons y ys =>
      cases x <;> try (cases xs <;> simp [AV.eqInts] at h; done)
      cases y <;> try (cases xs <;> cases ys <;> simp [AV.eqInts] at h; done)
      rename_i q1 n q2 m
      by_cases hq : q1 = q2
      case neg =>
        cases xs <;> cases ys <;> simp [AV.eqInts, hq] at h
      obtain ⟨u, v, p1, p2, p3⟩ := step 0 n m q1 q2 k (hx 0 _ rfl) (hy 0 _ rfl) hq
      rw [List.length_cons, List.range'_succ]
      simp only [Op.eqItems, Sem.run_bind, p1, p2, p3, Result.andThen_ok]
      cases xs with
      | nil =>
        cases ys with
        | nil =>
          simp only [AV.eqInts, hq, if_true, Option.some.injEq] at h
          subst h
          cases hnm : (n == m) <;> simp [Op.eqItems]
        | cons y ys => simp [AV.eqInts] at h
      | cons x' xs =>
        cases ys with
        | nil => simp [AV.eqInts] at h
        | cons y' ys =>
          simp only [AV.eqInts, hq, if_true] at h
          cases hr : AV.eqInts (x' :: xs) (y' :: ys) with
          | none => rw [hr] at h; cases h
          | some r' =>
            rw [hr] at h
            simp only [Option.map_some, Option.some.injEq] at h
            have := ih (y' :: ys) r' hr (k + 1) (fun j c hj => by
              obtain ⟨v, hv⟩ := hx (j + 1) c hj
              exact ⟨v, by rw [show k + 1 + j = k + (j + 1) by omega]; exact hv⟩) (fun j c hj => by
              obtain ⟨v, hv⟩ := hy (j + 1) c hj
              exact ⟨v, by rw [show k + 1 + j = k + (j + 1) by omega]; exact hv⟩)
            subst h
            cases hnm : (n == m) with
            | false => simp
            | true => simpa using this

theorem wrO_ok (hC : F.C = C) (h : RI F I own σ a w) {d : Option Nat} {x : Option AV} {v : Value} (hw : (σ.wrO C d x).wp C K) (hx : ∀ y, x = some y → AR F.mine I y v) : Post F K (a.put d v) w := by
  cases x with
  | none => exact hw.elim
  | some y =>
    have := hx y rfl
    exact wr_rv hC h hw ((rv_imm this.imm).2 this)

theorem run_shift {P : Program} {T : TypeId} {k k' : IntKind} {x y : Int} (h0 : 0 ≤ y) :
    (binOp .shl T (.int k x) (.int k' y)).run P w = .ok (.int k (k.wrap (x * 2 ^ (min y.toNat k.bits)))) w ∧ (binOp .shr T (.int k x) (.int k' y)).run P w = .ok (.int k (x.fdiv (2 ^ (min y.toNat k.bits)))) w := by
  have : ¬ y < 0 := by omega
  constructor <;> simp [binOp, Op.shift, this]

theorem run_cat {P : Program} {T : TypeId} {s t : List UInt8} (h : s.length + t.length ≤ 9223372036854775807) :
    (binOp .add T (.string ⟨s.toArray⟩) (.string ⟨t.toArray⟩)).run P w = .ok (.string ⟨(s ++ t).toArray⟩) w := by
  have h1 : ¬ ((((⟨s.toArray⟩ : ByteArray).size + (⟨t.toArray⟩ : ByteArray).size : Nat) : Int) > IntKind.i64.max) := by
    rw [bytes_size, bytes_size]
    show ¬ (_ > (9223372036854775807 : Int))
    omega
  simp only [binOp, Op.stringOp]
  rw [if_neg h1, bytes_app]
  rfl

theorem op_bin (hC : F.C = C) (hok : CfgOk C) (h : RI F I own σ a w) {dst : Option Tmp} {op : BinOp} {T T2 ty : TypeId} {x y : Operand} {pos : String} {after : Array Edge} {g : Option (Nat × Bool)}
    (hw : (opR C σ dst ty (.binOp op T x y T2)).wp C K) : Quiet F I C.P ⟨dst, .binOp op T x y T2, ty, pos, after, g⟩ a w (Post F K) := by
  have hx := rd_ok h C T x
  have hy := rd_ok h C T y
  simp only [opR] at hw
  generalize σ.rd C T x = X at hx hw
  generalize σ.rd C T y = Y at hy hw
  have done : ∀ {u : Value}, (∀ cs, a.eval x ≠ .agg cs) → a.eval x ≠ .nilIface → (∀ w2 : World, (binOp op T (a.eval x) (a.eval y)).run C.P w2 = .ok u w2) → Post F K (a.put dst u) w →
      Quiet F I C.P ⟨dst, .binOp op T x y T2, ty, pos, after, g⟩ a w (Post F K) := fun h1 h2 hr hp => by_q (fun w2 _ => run_bin h1 h2 (hr w2)) hp
  unfold binR at hw
  split at hw
  · have e1 := ar_int ((rv_imm rfl).1 hx)
    have e2 := ar_int ((rv_imm rfl).1 hy)
    obtain ⟨h0, hw⟩ := hw
    rw [e1, e2] at done
    exact done (by simp) (by simp) (fun w2 => (run_shift h0).1) (wr_int hC h hw)
  · have e1 := ar_int ((rv_imm rfl).1 hx)
    have e2 := ar_int ((rv_imm rfl).1 hy)
    obtain ⟨h0, hw⟩ := hw
    rw [e1, e2] at done
    exact done (by simp) (by simp) (fun w2 => (run_shift h0).2) (wr_int hC h hw)
  · have e1 := ar_int ((rv_imm rfl).1 hx)
    have e2 := ar_int ((rv_imm rfl).1 hy)
    have hchk := chk_ok hw
    clear hw
    obtain ⟨hk, h0, hw⟩ := hchk
    simp only [decide_eq_true_eq] at hk
    subst hk
    rw [e1, e2] at done
    exact done (by simp) (by simp) (fun w2 => (by simp [binOp, Op.intDiv, h0])) (wr_int hC h hw)
  · have e1 := ar_int ((rv_imm rfl).1 hx)
    have e2 := ar_int ((rv_imm rfl).1 hy)
    have hchk := chk_ok hw
    clear hw
    obtain ⟨hk, h0, hw⟩ := hchk
    simp only [decide_eq_true_eq] at hk
    subst hk
    rw [e1, e2] at done
    exact done (by simp) (by simp) (fun w2 => (by simp [binOp, Op.intDiv, h0])) (wr_int hC h hw)
  · have e1 := ar_int ((rv_imm rfl).1 hx)
    have e2 := ar_int ((rv_imm rfl).1 hy)
    have hchk := chk_ok hw
    clear hw
    obtain ⟨hk, hw⟩ := hchk
    simp only [decide_eq_true_eq] at hk
    subst hk
    rw [e1, e2] at done
    rename_i k n m _ _ _ _
    cases hv : binInt op k n m with
    | none => rw [hv] at hw; exact hw.elim
    | some v =>
      rw [hv] at hw
      obtain ⟨u, hu, har⟩ := binInt_ok (I := I) hv (P := C.P) (T := T)
      exact done (by simp) (by simp) hu (wr_rv hC h hw ((rv_imm (har F.mine).imm).2 (har F.mine)))
  · have e1 := ar_str ((rv_imm rfl).1 hx)
    have e2 := ar_str ((rv_imm rfl).1 hy)
    obtain ⟨h0, hw⟩ := hw
    rw [e1, e2] at done
    exact done (by simp) (by simp) (fun w2 => (run_cat h0)) (wr_str hC h hw)
  · have e1 := ar_str ((rv_imm rfl).1 hx)
    have e2 := ar_str ((rv_imm rfl).1 hy)
    rw [e1, e2] at done
    exact done (by simp) (by simp) (fun w2 => (by simp only [binOp, Op.stringOp, bytes_eq]; rfl)) (wr_bool hC h hw)
  · have e1 := ar_str ((rv_imm rfl).1 hx)
    have e2 := ar_str ((rv_imm rfl).1 hy)
    rw [e1, e2] at done
    exact done (by simp) (by simp) (fun w2 => (by simp only [binOp, Op.stringOp, bytes_eq]; rfl)) (wr_bool hC h hw)
  · have e1 := ar_str ((rv_imm rfl).1 hx)
    have e2 := ar_str ((rv_imm rfl).1 hy)
    rw [e1, e2] at done
    exact done (by simp) (by simp) (fun w2 => (by simp only [binOp, Op.stringOp, bytes_eq]; rfl)) (wr_bool hC h hw)
  · have e1 := ar_str ((rv_imm rfl).1 hx)
    have e2 := ar_str ((rv_imm rfl).1 hy)
    rw [e1, e2] at done
    exact done (by simp) (by simp) (fun w2 => (by simp only [binOp, Op.stringOp, bytes_eq]; rfl)) (wr_bool hC h hw)
  · have e1 := ar_str ((rv_imm rfl).1 hx)
    have e2 := ar_str ((rv_imm rfl).1 hy)
    rw [e1, e2] at done
    exact done (by simp) (by simp) (fun w2 => (by simp only [binOp, Op.stringOp, bytes_eq]; rfl)) (wr_bool hC h hw)
  · have e1 := ar_str ((rv_imm rfl).1 hx)
    have e2 := ar_str ((rv_imm rfl).1 hy)
    rw [e1, e2] at done
    exact done (by simp) (by simp) (fun w2 => (by simp only [binOp, Op.stringOp, bytes_eq]; rfl)) (wr_bool hC h hw)
  · have e1 := ar_bool ((rv_imm rfl).1 hx)
    have e2 := ar_bool ((rv_imm rfl).1 hy)
    have hchk := chk_ok hw
    clear hw
    obtain ⟨hk, hw⟩ := hchk
    rw [e1, e2] at done
    have hu : C.P.underlying T = some .bool := by
      cases hq : (C.ti T).kind <;> rw [hq] at hk <;> simp only [isBoolK] at hk <;> try cases hk
      have := (hok.fit T (by rw [hq]; rfl)).kind
      rw [hq] at this; exact this
    exact done (by simp) (by simp) (fun w2 => (run_eql_bool w2 T _ _ hu)) (wr_bool hC h hw)
  · have e1 := ar_bool ((rv_imm rfl).1 hx)
    have e2 := ar_bool ((rv_imm rfl).1 hy)
    have hchk := chk_ok hw
    clear hw
    obtain ⟨hk, hw⟩ := hchk
    rw [e1, e2] at done
    have hu : C.P.underlying T = some .bool := by
      cases hq : (C.ti T).kind <;> rw [hq] at hk <;> simp only [isBoolK] at hk <;> try cases hk
      have := (hok.fit T (by rw [hq]; rfl)).kind
      rw [hq] at this; exact this
    refine done (by simp) (by simp) (fun w2 => ?_) (wr_bool hC h hw)
    simp only [binOp]
    simp [run_equal_bool w2 T _ _ hu]
  · have ax := (rv_imm rfl).1 hx
    obtain ⟨_, _, ey⟩ : _ = false ∧ _ = [] ∧ a.eval y = .slice none 0 0 := hy
    have hchk := chk_ok hw
    clear hw
    obtain ⟨hk, hw⟩ := hchk
    obtain ⟨e, hu⟩ : ∃ e, C.P.underlying T = some (.slice e) := by
      cases hq : (C.ti T).kind <;> rw [hq] at hk <;> simp only [isSliceK] at hk <;> try cases hk
      have := (hok.fit T (by rw [hq]; rfl)).kind
      rw [hq] at this; exact ⟨_, this.1⟩
    rw [ey] at done
    cases hx' : a.eval x <;> rw [hx'] at ax <;> cases ax
    · rename_i base cap
      rw [hx'] at done
      refine done (u := .bool base.isNone) (by simp) (by simp) (fun w2 => ?_) ?_
      · simp only [binOp]
        simp [run_equal_slice_nil w2 T e _ _ _ hu]
      · cases base with
        | none => exact wr_bool hC h (hw.1 rfl)
        | some b => exact wr_bool hC h hw.2
    · rw [hx'] at done
      refine done (u := .bool false) (by simp) (by simp) (fun w2 => ?_) (wr_bool hC h hw.2)
      simp only [binOp]
      simp [run_equal_slice_nil w2 T e _ _ _ hu]
  · have ax := (rv_imm rfl).1 hx
    have ay := (rv_imm rfl).1 hy
    have hchk := chk_ok hw
    clear hw
    obtain ⟨hk, hnd, hw⟩ := hchk
    obtain ⟨x', y', z', hu⟩ : ∃ x y z, C.P.underlying T = some (.func x y z) := by
      cases hq : (C.ti T).kind <;> rw [hq] at hk <;> simp only [isFuncK] at hk <;> try cases hk
      have := (hok.fit T (by rw [hq]; rfl)).kind
      rw [hq] at this; exact this
    have ey : a.eval y = .nilFunc := by
      generalize a.eval y = vy at ay
      cases ay
      rfl
    obtain ⟨f, cs, ls, ex⟩ : ∃ f cs ls, a.eval x = .func f cs ls := by
      generalize a.eval x = vx at ax
      cases ax with
      | ext _ J _ _ _ hp => exact hnd J _ hp
    rw [ex, ey] at done
    refine done (u := .bool false) (by simp) (by simp) (fun w2 => ?_) (wr_bool hC h hw)
    simp only [binOp]
    have he : (Op.equalIn Op.maxDepth T (.func f cs ls) .nilFunc).run C.P w2 = .ok false w2 := by
      show (Op.equalIn (9999 + 1) T (.func f cs ls) .nilFunc).run C.P w2 = .ok false w2
      rw [Op.equalIn]
      simp [run_underlying hu]
    simp [Op.equal, he]
  · rename_i xs ys
    have ax := (rv_imm rfl).1 hx
    have ay := (rv_imm rfl).1 hy
    have hchk := chk_ok hw
    clear hw
    obtain ⟨hk, hw⟩ := hchk
    obtain ⟨n, e, hq, hn, hie⟩ : ∃ n e, (C.ti T).kind = .arr n e 1 ∧ n = xs.length ∧ isIntK (C.ti e).kind = true := by
      unfold isInts at hk
      split at hk
      · rename_i m e hm
        simp only [Bool.and_eq_true, decide_eq_true_eq] at hk
        exact ⟨m, e, hm, hk.1, hk.2⟩
      · cases hk
    have hfit := (hok.fit T (by rw [hq]; rfl)).kind
    rw [hq] at hfit
    obtain ⟨hu, i, hi, hsz, _⟩ := hfit
    obtain ⟨q, hke⟩ : ∃ q, (C.ti e).kind = .int q := by
      cases hq2 : (C.ti e).kind <;> rw [hq2] at hie <;> simp only [isIntK] at hie <;> first | exact ⟨_, rfl⟩ | cases hie
    have hue : C.P.underlying e = some (.int q) := by
      have := (hok.fit e (by rw [hke]; rfl)).kind
      rw [hke] at this; exact this
    have hcells : C.P.cellsOf e = 1 := by simp [Program.cellsOf, hi, hsz]
    cases hr : AV.eqInts xs ys with
    | none => rw [hr] at hw; exact hw.elim
    | some r =>
      rw [hr] at hw
      obtain ⟨us, hus, u1, u2⟩ : ∃ us, a.eval x = .agg us ∧ xs.length = us.size ∧ ∀ (j : Nat) c v, xs[j]? = some c → us[j]? = some v → AR F.mine I c v := by
        cases hx' : a.eval x <;> rw [hx'] at ax <;> cases ax
        rename_i _ hl hh
        exact ⟨_, rfl, hl, hh⟩
      obtain ⟨vs, hvs, v1, v2⟩ : ∃ vs, a.eval y = .agg vs ∧ ys.length = vs.size ∧ ∀ (j : Nat) c v, ys[j]? = some c → vs[j]? = some v → AR F.mine I c v := by
        cases hy' : a.eval y <;> rw [hy'] at ay <;> cases ay
        rename_i _ hl hh
        exact ⟨_, rfl, hl, hh⟩
      have heq : ∀ w2 : World, (Op.equalIn 10000 T (.agg us) (.agg vs)).run C.P w2 = .ok r w2 := by
        intro w2
        rw [run_equalIn_array w2 9999 us vs hu hi, hcells, hn, List.range_eq_range']
        refine eqItems_ints (M := F.mine) (I := I) hue 9998 us vs xs ys r hr 0 (fun j c hj => ?_) (fun j c hj => ?_)
        · have hjl : j < us.size := by rw [← u1]; exact (List.getElem?_eq_some_iff.1 hj).1
          rw [Nat.zero_add]
          exact ⟨_, Array.getElem?_eq_getElem hjl, u2 j c _ hj (Array.getElem?_eq_getElem hjl)⟩
        · have hjl : j < vs.size := by rw [← v1]; exact (List.getElem?_eq_some_iff.1 hj).1
          rw [Nat.zero_add]
          exact ⟨_, Array.getElem?_eq_getElem hjl, v2 j c _ hj (Array.getElem?_eq_getElem hjl)⟩
      have hgd : C.P.eqGuardType C.P.depth T = false := by
        have hd : C.P.depth = (2 * (C.P.types.size + Made.depth)) + 1 + 1 := rfl
        rw [hd]
        simp only [Program.eqGuardType, hu, hue]
      have hguard : ∀ w2 : World, (eqGuard op T x y (.agg us) (.agg vs)).run C.P w2 = .ok () w2 := fun w2 => run_eqGuard_agg w2 op T x y us vs hgd
      cases op <;> simp only [binAgg] at hw <;> try exact hw.elim
      · refine by_q (v := .bool r) (fun w2 hl2 => ?_) (wr_bool hC h hw)
        simp [execOp, hus, hvs, hguard, run_eql_struct, heq]
      · refine by_q (v := .bool !r) (fun w2 hl2 => ?_) (wr_bool hC h hw)
        simp [execOp, hus, hvs, hguard, run_neq_struct, heq]
  · exact hw.elim

theorem op_un (hC : F.C = C) (h : RI F I own σ a w) {P : Program} {dst : Option Tmp} {op : UnOp} {T ty : TypeId} {x : Operand} {pos : String} {after : Array Edge} {g : Option (Nat × Bool)}
    (hw : (opR C σ dst ty (.unOp op T x)).wp C K) : Quiet F I P ⟨dst, .unOp op T x, ty, pos, after, g⟩ a w (Post F K) := by
  have hx := rd_ok h C T x
  simp only [opR] at hw
  generalize σ.rd C T x = X at hx hw
  unfold unVal at hw
  split at hw
  · have e1 := ar_bool ((rv_imm rfl).1 hx)
    exact by_q (fun w2 hl2 => by simp [execOp, e1, Op.unary]) (wr_bool hC h hw)
  · have e1 := ar_int ((rv_imm rfl).1 hx)
    exact by_q (fun w2 hl2 => by simp only [execOp, e1, Op.unary, Op.intArith]; rfl) (wr_int hC h hw)
  · have e1 := ar_int ((rv_imm rfl).1 hx)
    exact by_q (fun w2 hl2 => by simp only [execOp, e1, Op.unary, Op.intBits]; rfl) (wr_int hC h hw)
  · exact hw.elim

theorem op_extract (hC : F.C = C) (h : RI F I own σ a w) {P : Program} {dst : Option Tmp} {t : Tmp} {i : Nat} {ty : TypeId} {pos : String} {after : Array Edge} {g : Option (Nat × Bool)}
    (hw : (opR C σ dst ty (.extract (.tmp t) i)).wp C K) : Quiet F I P ⟨dst, .extract (.tmp t) i, ty, pos, after, g⟩ a w (Post F K) := by
  simp only [opR] at hw
  cases ht : look σ.tmps t with
  | none => rw [ht] at hw; exact hw.elim
  | some y =>
    rw [ht] at hw
    cases y <;> simp only [extrR] at hw <;> try exact hw.elim
    rename_i vs
    obtain ⟨v, hv, arr, e1, e2⟩ := h.slots (.tmp t) _ ht
    have heval : a.eval (.tmp t) = .tuple arr := by
      simp only [conc] at hv
      simp only [Act.eval, Array.getD_eq_getD_getElem?, hv, Option.getD_some, e1]
    cases hi : vs[i]? with
    | none => rw [hi] at hw; exact hw.elim
    | some x =>
      rw [hi] at hw
      have hat : σ.at (.comp t i) = some x := by simp only [ASt.at, ht, AV.compAt]; exact hi
      have hc : conc a w (.comp t i) = arr[i]? := by
        have hv' : a.tmps[t]? = some (.tuple arr) := by rw [← e1]; exact hv
        simp only [conc, hv', compOf]
      obtain ⟨u, hu, hr⟩ := h.slots _ _ hat
      rw [hc] at hu
      refine by_q (v := u) (fun w2 hl2 => by simp [execOp, heval, Instr.extract, hu]) ?_
      cases x with
      | own sh sz es =>
        simp only [extrOne] at hw
        obtain ⟨u', hu', h2, h3⟩ := h.inHand hat
        rw [hc, hu] at hu'
        cases hu'
        exact wr_own hC h2 hw h3
      | _ =>
        simp only [extrOne] at hw
        refine wrImm_ok hC h hw fun y hy => ?_
        cases hy
        obtain ⟨h1, _⟩ := chk_ok hw
        exact (srep_imm h1).1 hr

end
end Go.Proofs.Ytjfnmlheehbojaa.VA
