/- Operations that compute. Addresses, parts, slices of slices. Cutting, conversion, new slices, the built-in functions. New slices, and the built-in functions. Structs, arrays and slices that are built of parts. Values that are put by; rows that are written over. Calls of functions: what is handed over, what comes back. The abstract machine is sound: operations, regions, code. Operations that yield their value in every later world: of a load, of a conversion. A state seen from a later begin. Regions whose order is drawn: whatever order comes, the quiet operations may be taken first. An order of a drawn region's operations that stands for all of them. Walks outside a round and within one: what is owed of an operation, of a region. Loops over functions: a state seen from another base. -/
import Derived.Test.YtmngjlgeojbghaaT1
import Derived.Great.BuildSlice
import Derived.ChangeKeysEq
import Derived.Laws.Cover3
import Derived.OrdersHeld
import Derived.Scope
import Derived.LoopNIn
import Derived.OrdersIn
import Derived.RangeFuncRecord
set_option linter.unusedSimpArgs false
set_option linter.unusedVariables false
section
namespace Go.Proofs.Ytmngjlgeojbghaa.VA
section
variable {F : Fx} {I : Imm} {own : Nat → Option Loc} {σ : ASt} {a : Act} {w w' : World} {C : Cfg} {K : ASt → Prop} {Q : Exit → Act → World → Prop}

theorem wr_int (hC : F.C = C) (h : RI F I own σ a w) {d : Option Nat} {k : IntKind} {n : Int} (hw : (σ.wr C d (.int k n)).wp C K) : Post F K (a.put d (.int k n)) w := wr_rv hC h hw (.int k n)
theorem wr_bool (hC : F.C = C) (h : RI F I own σ a w) {d : Option Nat} {b : Bool} (hw : (σ.wr C d (.bool b)).wp C K) : Post F K (a.put d (.bool b)) w := wr_rv hC h hw (.bool b)
theorem wr_str (hC : F.C = C) (h : RI F I own σ a w) {d : Option Nat} {s : List UInt8} (hw : (σ.wr C d (.str s)).wp C K) : Post F K (a.put d (.string ⟨s.toArray⟩)) w := wr_rv hC h hw (.str s)

theorem binInt_ok {op : BinOp} {k : IntKind} {x y : Int} {v : AV} (hv : binInt op k x y = some v) {P : Program} {T : TypeId} : ∃ u, (∀ w2 : World, (binOp op T (.int k x) (.int k y)).run P w2 = .ok u w2) ∧ ∀ M, AR M I v u := by
  cases op <;> simp only [binInt, Option.some.injEq] at hv <;> try cases hv
  case add => exact ⟨_, fun w2 => by simp [binOp, Op.intArith], fun M => .int _ _⟩
  case sub => exact ⟨_, fun w2 => by simp [binOp, Op.intArith], fun M => .int _ _⟩
  case mul => exact ⟨_, fun w2 => by simp [binOp, Op.intArith], fun M => .int _ _⟩
  case and => exact ⟨_, fun w2 => by simp [binOp, Op.intBits], fun M => .int _ _⟩
  case or => exact ⟨_, fun w2 => by simp [binOp, Op.intBits], fun M => .int _ _⟩
  case xor => exact ⟨_, fun w2 => by simp [binOp, Op.intBits], fun M => .int _ _⟩
  case eql => exact ⟨_, fun w2 => by simp [binOp, Op.intCmp], fun M => .bool _⟩
  case neq => exact ⟨_, fun w2 => by simp [binOp, Op.intCmp], fun M => .bool _⟩
  case lss => exact ⟨_, fun w2 => by simp [binOp, Op.intCmp], fun M => .bool _⟩
  case leq => exact ⟨_, fun w2 => by simp [binOp, Op.intCmp], fun M => .bool _⟩
  case gtr => exact ⟨_, fun w2 => by simp [binOp, Op.intCmp], fun M => .bool _⟩
  case geq => exact ⟨_, fun w2 => by simp [binOp, Op.intCmp], fun M => .bool _⟩

theorem guard_none {P : Program} {op : BinOp} {T : TypeId} {x y : Operand} {u v : Value} (h1 : ∀ cs, u ≠ .agg cs) (h2 : u ≠ .nilIface) : (eqGuard op T x y u v).run P w = .ok () w := by
  unfold eqGuard
  by_cases ho : (!(match op with | .eql | .neq => true | _ => false)) = true
  · cases op <;> simp at ho ⊢
  · cases u <;> first | exact absurd rfl h2 | exact absurd rfl (h1 _) | (cases op <;> simp at ho ⊢)

theorem run_bin {P : Program} {dst : Option Tmp} {op : BinOp} {T T2 ty : TypeId} {x y : Operand} {pos : String} {after : Array Edge} {g : Option (Nat × Bool)} {u : Value}
    (h1 : ∀ cs, a.eval x ≠ .agg cs) (h2 : a.eval x ≠ .nilIface) (hr : (binOp op T (a.eval x) (a.eval y)).run P w = .ok u w) :
    (execOp a.eval ⟨dst, .binOp op T x y T2, ty, pos, after, g⟩).run P w = .ok (.value u) w := by
  simp [execOp, guard_none h1 h2, hr]

theorem bytes_eq (s : List UInt8) : (⟨s.toArray⟩ : ByteArray).toList = s := by simp
theorem bytes_size (s : List UInt8) : (⟨s.toArray⟩ : ByteArray).size = s.length := rfl
theorem bytes_app (s t : List UInt8) : (⟨s.toArray⟩ : ByteArray) ++ ⟨t.toArray⟩ = ⟨(s ++ t).toArray⟩ := by
  apply ByteArray.ext
  simp

theorem part_int {P : Program} {e : TypeId} {q : IntKind} (he : P.underlying e = some (.int q)) (us : Array Value) (k : Nat) {u : Value} (h : us[k]? = some u) : (part e us (k * 1)).run P w = .ok u w := by
  simp [part, isAgg, run_underlying he, h]

theorem eqItems_ints {P : Program} {e : TypeId} {q : IntKind} (he : P.underlying e = some (.int q)) (d : Nat) {M : Nat → Prop} (us vs : Array Value) : ∀ (xs ys : List AV) (r : Bool), AV.eqInts xs ys = some r → ∀ k,
    (∀ (j : Nat) c, xs[j]? = some c → ∃ v, us[k + j]? = some v ∧ AR M I c v) → (∀ (j : Nat) c, ys[j]? = some c → ∃ v, vs[k + j]? = some v ∧ AR M I c v) →
    (Op.eqItems (d + 1) e 1 us vs (List.range' k xs.length)).run P w = .ok r w := by
  have step : ∀ (k n m : Int) (q1 q2 : IntKind) (i : Nat), (∃ v, us[i]? = some v ∧ AR M I (.int q1 n) v) → (∃ v, vs[i]? = some v ∧ AR M I (.int q2 m) v) → q1 = q2 →
      ∃ u v, (part e us (i * 1)).run P w = .ok u w ∧ (part e vs (i * 1)).run P w = .ok v w ∧ (Op.equalIn (d + 1) e u v).run P w = .ok (n == m) w := by
    rintro k n m q1 q2 i ⟨u, hu, hu'⟩ ⟨v, hv, hv'⟩ rfl
    rw [ar_int hu'] at hu
    rw [ar_int hv'] at hv
    exact ⟨_, _, part_int he us i hu, part_int he vs i hv, run_equalIn_int w d e _ q n m he⟩
  intro xs
  induction xs with
  | nil => intro ys r h; cases ys <;> simp [AV.eqInts] at h
  | cons x xs ih =>
    intro ys r h k hx hy
    cases ys with
    | nil => cases x <;> cases xs <;> simp [AV.eqInts] at h
    | cons y ys =>
      cases x <;> try (cases xs <;> simp [AV.eqInts] at h; done)
      cases y <;> try (cases xs <;> cases ys <;> simp [AV.eqInts] at h; done)
      rename_i q1 n q2 m
      by_cases hq : q1 = q2
      case neg =>
        cases xs <;> cases ys <;> simp [AV.eqInts, hq] at h
      obtain ⟨u, v, p1, p2, p3⟩ := step 0 n m q1 q2 k (hx 0 _ rfl) (hy 0 _ rfl) hq
      rw [List.length_cons, List.range'_succ]
      simp only [Op.eqItems, Sem.run_bind, p1, p2, p3, Result.andThen_ok]
      cases xs with
      | nil =>
        cases ys with
        | nil =>
          simp only [AV.eqInts, hq, if_true, Option.some.injEq] at h
          subst h
          cases hnm : (n == m) <;> simp [Op.eqItems]
        | cons y ys => simp [AV.eqInts] at h
      | cons x' xs =>
        cases ys with
        | nil => simp [AV.eqInts] at h
        | cons y' ys =>
          simp only [AV.eqInts, hq, if_true] at h
          cases hr : AV.eqInts (x' :: xs) (y' :: ys) with
          | none => rw [hr] at h; cases h
          | some r' =>
            rw [hr] at h
            simp only [Option.map_some, Option.some.injEq] at h
            have := ih (y' :: ys) r' hr (k + 1) (fun j c hj => by
              obtain ⟨v, hv⟩ := hx (j + 1) c hj
              exact ⟨v, by rw [show k + 1 + j = k + (j + 1) by omega]; exact hv⟩) (fun j c hj => by
              obtain ⟨v, hv⟩ := hy (j + 1) c hj
              exact ⟨v, by rw [show k + 1 + j = k + (j + 1) by omega]; exact hv⟩)
            subst h
            cases hnm : (n == m) with
            | false => simp
            | true => simpa using this

theorem wrO_ok (hC : F.C = C) (h : RI F I own σ a w) {d : Option Nat} {x : Option AV} {v : Value} (hw : (σ.wrO C d x).wp C K) (hx : ∀ y, x = some y → AR F.mo I y v) : Post F K (a.put d v) w := by
  cases x with
  | none => exact hw.elim
  | some y =>
    have := hx y rfl
    exact wr_rv hC h hw ((rv_imm this.imm).2 this)

theorem run_shift {P : Program} {T : TypeId} {k k' : IntKind} {x y : Int} (h0 : 0 ≤ y) :
    (binOp .shl T (.int k x) (.int k' y)).run P w = .ok (.int k (k.wrap (x * 2 ^ (min y.toNat k.bits)))) w ∧ (binOp .shr T (.int k x) (.int k' y)).run P w = .ok (.int k (x.fdiv (2 ^ (min y.toNat k.bits)))) w := by
  have : ¬ y < 0 := by omega
  constructor <;> simp [binOp, Op.shift, this]

theorem run_cat {P : Program} {T : TypeId} {s t : List UInt8} (h : s.length + t.length ≤ 9223372036854775807) :
    (binOp .add T (.string ⟨s.toArray⟩) (.string ⟨t.toArray⟩)).run P w = .ok (.string ⟨(s ++ t).toArray⟩) w := by
  have h1 : ¬ ((((⟨s.toArray⟩ : ByteArray).size + (⟨t.toArray⟩ : ByteArray).size : Nat) : Int) > IntKind.i64.max) := by
    rw [bytes_size, bytes_size]
    show ¬ (_ > (9223372036854775807 : Int))
    omega
  simp only [binOp, Op.stringOp]
  rw [if_neg h1, bytes_app]
  rfl

theorem op_bin (hC : F.C = C) (hok : CfgOk C) (h : RI F I own σ a w) {dst : Option Tmp} {op : BinOp} {T T2 ty : TypeId} {x y : Operand} {pos : String} {after : Array Edge} {g : Option (Nat × Bool)}
    (hw : (opR C σ dst ty (.binOp op T x y T2)).wp C K) : Quiet F I C.P ⟨dst, .binOp op T x y T2, ty, pos, after, g⟩ a w (Post F K) := by
  have hx := rd_ok h C T x
  have hy := rd_ok h C T y
  simp only [opR] at hw
  generalize σ.rd C T x = X at hx hw
  generalize σ.rd C T y = Y at hy hw
  have done : ∀ {u : Value}, (∀ cs, a.eval x ≠ .agg cs) → a.eval x ≠ .nilIface → (∀ w2 : World, (binOp op T (a.eval x) (a.eval y)).run C.P w2 = .ok u w2) → Post F K (a.put dst u) w →
      Quiet F I C.P ⟨dst, .binOp op T x y T2, ty, pos, after, g⟩ a w (Post F K) := fun h1 h2 hr hp => by_q (fun w2 _ => run_bin h1 h2 (hr w2)) hp
  unfold binR at hw
  split at hw
  · have e1 := ar_int ((rv_imm rfl).1 hx)
    have e2 := ar_int ((rv_imm rfl).1 hy)
    obtain ⟨h0, hw⟩ := hw
    rw [e1, e2] at done
    exact done (by simp) (by simp) (fun w2 => (run_shift h0).1) (wr_int hC h hw)
  · have e1 := ar_int ((rv_imm rfl).1 hx)
    have e2 := ar_int ((rv_imm rfl).1 hy)
    obtain ⟨h0, hw⟩ := hw
    rw [e1, e2] at done
    exact done (by simp) (by simp) (fun w2 => (run_shift h0).2) (wr_int hC h hw)
  · have e1 := ar_int ((rv_imm rfl).1 hx)
    have e2 := ar_int ((rv_imm rfl).1 hy)
    have hchk := chk_ok hw
    clear hw
    obtain ⟨hk, h0, hw⟩ := hchk
    simp only [decide_eq_true_eq] at hk
    subst hk
    rw [e1, e2] at done
    exact done (by simp) (by simp) (fun w2 => (by simp [binOp, Op.intDiv, h0])) (wr_int hC h hw)
  · have e1 := ar_int ((rv_imm rfl).1 hx)
    have e2 := ar_int ((rv_imm rfl).1 hy)
    have hchk := chk_ok hw
    clear hw
    obtain ⟨hk, h0, hw⟩ := hchk
    simp only [decide_eq_true_eq] at hk
    subst hk
    rw [e1, e2] at done
    exact done (by simp) (by simp) (fun w2 => (by simp [binOp, Op.intDiv, h0])) (wr_int hC h hw)
  · have e1 := ar_int ((rv_imm rfl).1 hx)
    have e2 := ar_int ((rv_imm rfl).1 hy)
    have hchk := chk_ok hw
    clear hw
    obtain ⟨hk, hw⟩ := hchk
    simp only [decide_eq_true_eq] at hk
    subst hk
    rw [e1, e2] at done
    rename_i k n m _ _ _ _
    cases hv : binInt op k n m with
    | none => rw [hv] at hw; exact hw.elim
    | some v =>
      rw [hv] at hw
      obtain ⟨u, hu, har⟩ := binInt_ok (I := I) hv (P := C.P) (T := T)
      exact done (by simp) (by simp) hu (wr_rv hC h hw ((rv_imm (har F.mo).imm).2 (har F.mo)))
  · have e1 := ar_str ((rv_imm rfl).1 hx)
    have e2 := ar_str ((rv_imm rfl).1 hy)
    obtain ⟨h0, hw⟩ := hw
    rw [e1, e2] at done
    exact done (by simp) (by simp) (fun w2 => (run_cat h0)) (wr_str hC h hw)
  · have e1 := ar_str ((rv_imm rfl).1 hx)
    have e2 := ar_str ((rv_imm rfl).1 hy)
    rw [e1, e2] at done
    exact done (by simp) (by simp) (fun w2 => (by simp only [binOp, Op.stringOp, bytes_eq]; rfl)) (wr_bool hC h hw)
  · have e1 := ar_str ((rv_imm rfl).1 hx)
    have e2 := ar_str ((rv_imm rfl).1 hy)
    rw [e1, e2] at done
    exact done (by simp) (by simp) (fun w2 => (by simp only [binOp, Op.stringOp, bytes_eq]; rfl)) (wr_bool hC h hw)
  · have e1 := ar_str ((rv_imm rfl).1 hx)
    have e2 := ar_str ((rv_imm rfl).1 hy)
    rw [e1, e2] at done
    exact done (by simp) (by simp) (fun w2 => (by simp only [binOp, Op.stringOp, bytes_eq]; rfl)) (wr_bool hC h hw)
  · have e1 := ar_str ((rv_imm rfl).1 hx)
    have e2 := ar_str ((rv_imm rfl).1 hy)
    rw [e1, e2] at done
    exact done (by simp) (by simp) (fun w2 => (by simp only [binOp, Op.stringOp, bytes_eq]; rfl)) (wr_bool hC h hw)
  · have e1 := ar_str ((rv_imm rfl).1 hx)
    have e2 := ar_str ((rv_imm rfl).1 hy)
    rw [e1, e2] at done
    exact done (by simp) (by simp) (fun w2 => (by simp only [binOp, Op.stringOp, bytes_eq]; rfl)) (wr_bool hC h hw)
  · have e1 := ar_str ((rv_imm rfl).1 hx)
    have e2 := ar_str ((rv_imm rfl).1 hy)
    rw [e1, e2] at done
    exact done (by simp) (by simp) (fun w2 => (by simp only [binOp, Op.stringOp, bytes_eq]; rfl)) (wr_bool hC h hw)
  · have e1 := ar_bool ((rv_imm rfl).1 hx)
    have e2 := ar_bool ((rv_imm rfl).1 hy)
    have hchk := chk_ok hw
    clear hw
    obtain ⟨hk, hw⟩ := hchk
    rw [e1, e2] at done
    have hu : C.P.underlying T = some .bool := by
      cases hq : (C.ti T).kind <;> rw [hq] at hk <;> simp only [isBoolK] at hk <;> try cases hk
      have := (hok.fit T (by rw [hq]; rfl)).kind
      rw [hq] at this; exact this
    exact done (by simp) (by simp) (fun w2 => (run_eql_bool w2 T _ _ hu)) (wr_bool hC h hw)
  · have e1 := ar_bool ((rv_imm rfl).1 hx)
    have e2 := ar_bool ((rv_imm rfl).1 hy)
    have hchk := chk_ok hw
    clear hw
    obtain ⟨hk, hw⟩ := hchk
    rw [e1, e2] at done
    have hu : C.P.underlying T = some .bool := by
      cases hq : (C.ti T).kind <;> rw [hq] at hk <;> simp only [isBoolK] at hk <;> try cases hk
      have := (hok.fit T (by rw [hq]; rfl)).kind
      rw [hq] at this; exact this
    refine done (by simp) (by simp) (fun w2 => ?_) (wr_bool hC h hw)
    simp only [binOp]
    simp [run_equal_bool w2 T _ _ hu]
  · have ax := (rv_imm rfl).1 hx
    obtain ⟨_, _, ey⟩ : _ = false ∧ _ = [] ∧ a.eval y = .slice none 0 0 := hy
    have hchk := chk_ok hw
    clear hw
    obtain ⟨hk, hw⟩ := hchk
    obtain ⟨e, hu⟩ : ∃ e, C.P.underlying T = some (.slice e) := by
      cases hq : (C.ti T).kind <;> rw [hq] at hk <;> simp only [isSliceK] at hk <;> try cases hk
      have := (hok.fit T (by rw [hq]; rfl)).kind
      rw [hq] at this; exact ⟨_, this.1⟩
    rw [ey] at done
    cases hx' : a.eval x <;> rw [hx'] at ax <;> cases ax
    · rename_i base cap
      rw [hx'] at done
      refine done (u := .bool base.isNone) (by simp) (by simp) (fun w2 => ?_) ?_
      · simp only [binOp]
        simp [run_equal_slice_nil w2 T e _ _ _ hu]
      · cases base with
        | none => exact wr_bool hC h (hw.1 rfl)
        | some b => exact wr_bool hC h hw.2
    · rw [hx'] at done
      refine done (u := .bool false) (by simp) (by simp) (fun w2 => ?_) (wr_bool hC h hw.2)
      simp only [binOp]
      simp [run_equal_slice_nil w2 T e _ _ _ hu]
  · have ax := (rv_imm rfl).1 hx
    have ay := (rv_imm rfl).1 hy
    have hchk := chk_ok hw
    clear hw
    obtain ⟨hk, hnd, hw⟩ := hchk
    obtain ⟨x', y', z', hu⟩ : ∃ x y z, C.P.underlying T = some (.func x y z) := by
      cases hq : (C.ti T).kind <;> rw [hq] at hk <;> simp only [isFuncK] at hk <;> try cases hk
      have := (hok.fit T (by rw [hq]; rfl)).kind
      rw [hq] at this; exact this
    have ey : a.eval y = .nilFunc := by
      generalize a.eval y = vy at ay
      cases ay
      rfl
    obtain ⟨f, cs, ls, ex⟩ : ∃ f cs ls, a.eval x = .func f cs ls := by
      generalize a.eval x = vx at ax
      cases ax with
      | ext _ J _ _ _ hp => exact hnd J _ hp
    rw [ex, ey] at done
    refine done (u := .bool false) (by simp) (by simp) (fun w2 => ?_) (wr_bool hC h hw)
    simp only [binOp]
    have he : (Op.equalIn Op.maxDepth T (.func f cs ls) .nilFunc).run C.P w2 = .ok false w2 := by
      show (Op.equalIn (9999 + 1) T (.func f cs ls) .nilFunc).run C.P w2 = .ok false w2
      rw [Op.equalIn]
      simp [run_underlying hu]
    simp [Op.equal, he]
  · rename_i xs ys
    have ax := (rv_imm rfl).1 hx
    have ay := (rv_imm rfl).1 hy
    have hchk := chk_ok hw
    clear hw
    obtain ⟨hk, hw⟩ := hchk
    obtain ⟨n, e, hq, hn, hie⟩ : ∃ n e, (C.ti T).kind = .arr n e 1 ∧ n = xs.length ∧ isIntK (C.ti e).kind = true := by
      unfold isInts at hk
      split at hk
      · rename_i m e hm
        simp only [Bool.and_eq_true, decide_eq_true_eq] at hk
        exact ⟨m, e, hm, hk.1, hk.2⟩
      · cases hk
    have hfit := (hok.fit T (by rw [hq]; rfl)).kind
    rw [hq] at hfit
    obtain ⟨hu, i, hi, hsz, _⟩ := hfit
    obtain ⟨q, hke⟩ : ∃ q, (C.ti e).kind = .int q := by
      cases hq2 : (C.ti e).kind <;> rw [hq2] at hie <;> simp only [isIntK] at hie <;> first | exact ⟨_, rfl⟩ | cases hie
    have hue : C.P.underlying e = some (.int q) := by
      have := (hok.fit e (by rw [hke]; rfl)).kind
      rw [hke] at this; exact this
    have hcells : C.P.cellsOf e = 1 := by simp [Program.cellsOf, hi, hsz]
    cases hr : AV.eqInts xs ys with
    | none => rw [hr] at hw; exact hw.elim
    | some r =>
      rw [hr] at hw
      obtain ⟨us, hus, u1, u2⟩ : ∃ us, a.eval x = .agg us ∧ xs.length = us.size ∧ ∀ (j : Nat) c v, xs[j]? = some c → us[j]? = some v → AR F.mo I c v := by
        cases hx' : a.eval x <;> rw [hx'] at ax <;> cases ax
        rename_i _ hl hh
        exact ⟨_, rfl, hl, hh⟩
      obtain ⟨vs, hvs, v1, v2⟩ : ∃ vs, a.eval y = .agg vs ∧ ys.length = vs.size ∧ ∀ (j : Nat) c v, ys[j]? = some c → vs[j]? = some v → AR F.mo I c v := by
        cases hy' : a.eval y <;> rw [hy'] at ay <;> cases ay
        rename_i _ hl hh
        exact ⟨_, rfl, hl, hh⟩
      have heq : ∀ w2 : World, (Op.equalIn 10000 T (.agg us) (.agg vs)).run C.P w2 = .ok r w2 := by
        intro w2
        rw [run_equalIn_array w2 9999 us vs hu hi, hcells, hn, List.range_eq_range']
        refine eqItems_ints (M := F.mo) (I := I) hue 9998 us vs xs ys r hr 0 (fun j c hj => ?_) (fun j c hj => ?_)
        · have hjl : j < us.size := by rw [← u1]; exact (List.getElem?_eq_some_iff.1 hj).1
          rw [Nat.zero_add]
          exact ⟨_, Array.getElem?_eq_getElem hjl, u2 j c _ hj (Array.getElem?_eq_getElem hjl)⟩
        · have hjl : j < vs.size := by rw [← v1]; exact (List.getElem?_eq_some_iff.1 hj).1
          rw [Nat.zero_add]
          exact ⟨_, Array.getElem?_eq_getElem hjl, v2 j c _ hj (Array.getElem?_eq_getElem hjl)⟩
      have hgd : C.P.eqGuardType C.P.depth T = false := by
        have hd : C.P.depth = (2 * (C.P.types.size + Made.depth)) + 1 + 1 := rfl
        rw [hd]
        simp only [Program.eqGuardType, hu, hue]
      have hguard : ∀ w2 : World, (eqGuard op T x y (.agg us) (.agg vs)).run C.P w2 = .ok () w2 := fun w2 => run_eqGuard_agg w2 op T x y us vs hgd
      cases op <;> simp only [binAgg] at hw <;> try exact hw.elim
      · refine by_q (v := .bool r) (fun w2 hl2 => ?_) (wr_bool hC h hw)
        simp [execOp, hus, hvs, hguard, run_eql_struct, heq]
      · refine by_q (v := .bool !r) (fun w2 hl2 => ?_) (wr_bool hC h hw)
        simp [execOp, hus, hvs, hguard, run_neq_struct, heq]
  · exact hw.elim

theorem op_un (hC : F.C = C) (h : RI F I own σ a w) {P : Program} {dst : Option Tmp} {op : UnOp} {T ty : TypeId} {x : Operand} {pos : String} {after : Array Edge} {g : Option (Nat × Bool)}
    (hw : (opR C σ dst ty (.unOp op T x)).wp C K) : Quiet F I P ⟨dst, .unOp op T x, ty, pos, after, g⟩ a w (Post F K) := by
  have hx := rd_ok h C T x
  simp only [opR] at hw
  generalize σ.rd C T x = X at hx hw
  unfold unVal at hw
  split at hw
  · have e1 := ar_bool ((rv_imm rfl).1 hx)
    exact by_q (fun w2 hl2 => by simp [execOp, e1, Op.unary]) (wr_bool hC h hw)
  · have e1 := ar_int ((rv_imm rfl).1 hx)
    exact by_q (fun w2 hl2 => by simp only [execOp, e1, Op.unary, Op.intArith]; rfl) (wr_int hC h hw)
  · have e1 := ar_int ((rv_imm rfl).1 hx)
    exact by_q (fun w2 hl2 => by simp only [execOp, e1, Op.unary, Op.intBits]; rfl) (wr_int hC h hw)
  · exact hw.elim

theorem op_extract (hC : F.C = C) (h : RI F I own σ a w) {P : Program} {dst : Option Tmp} {t : Tmp} {i : Nat} {ty : TypeId} {pos : String} {after : Array Edge} {g : Option (Nat × Bool)}
    (hw : (opR C σ dst ty (.extract (.tmp t) i)).wp C K) : Quiet F I P ⟨dst, .extract (.tmp t) i, ty, pos, after, g⟩ a w (Post F K) := by
  simp only [opR] at hw
  cases ht : look σ.tmps t with
  | none => rw [ht] at hw; exact hw.elim
  | some y =>
    rw [ht] at hw
    cases y <;> simp only [extrR] at hw <;> try exact hw.elim
    rename_i vs
    obtain ⟨v, hv, arr, e1, e2⟩ := h.slots (.tmp t) _ ht
    have heval : a.eval (.tmp t) = .tuple arr := by
      simp only [conc] at hv
      simp only [Act.eval, Array.getD_eq_getD_getElem?, hv, Option.getD_some, e1]
    cases hi : vs[i]? with
    | none => rw [hi] at hw; exact hw.elim
    | some x =>
      rw [hi] at hw
      have hat : σ.at (.comp t i) = some x := by simp only [ASt.at, ht, AV.compAt]; exact hi
      have hc : conc a w (.comp t i) = arr[i]? := by
        have hv' : a.tmps[t]? = some (.tuple arr) := by rw [← e1]; exact hv
        simp only [conc, hv', compOf]
      obtain ⟨u, hu, hr⟩ := h.slots _ _ hat
      rw [hc] at hu
      refine by_q (v := u) (fun w2 hl2 => by simp [execOp, heval, Instr.extract, hu]) ?_
      cases x with
      | own sh sz es =>
        simp only [extrOne] at hw
        obtain ⟨u', hu', h2, h3⟩ := h.inHand hat
        rw [hc, hu] at hu'
        cases hu'
        exact wr_own hC h2 hw h3
      | _ =>
        simp only [extrOne] at hw
        refine wrImm_ok hC h hw fun y hy => ?_
        cases hy
        obtain ⟨h1, _⟩ := chk_ok hw
        exact (srep_imm h1).1 hr

end
end Go.Proofs.Ytmngjlgeojbghaa.VA
end
section
namespace Go.Proofs.Ytmngjlgeojbghaa.VA
section
variable {F : Fx} {I : Imm} {own : Nat → Option Loc} {σ : ASt} {a : Act} {w w' : World} {C : Cfg} {K : ASt → Prop} {Q : Exit → Act → World → Prop}

theorem isSome_look {α : Type} {l : List (Nat × α)} {k : Nat} (h : (look l k).isSome = true) : ∃ x, look l k = some x := Option.isSome_iff_exists.1 h

/-- The address of a part of what another address leads to. -/
theorem rv_shift {y : AV} {u : Value} (hu : RV F I own σ a w y u) (q : Nat) : (∃ k off cs, y = .var k off ∧ look σ.vars k = some cs) ∨ (∃ x i off sz es, y = .elt x i off ∧ σ.cont x = some (sz, es) ∧ ∀ sh sz es, x ≠ .own sh sz es) →
    ∃ b o, u = .pointer (some ⟨b, o, none⟩) ∧ RV F I own σ a w (match y with | .var k off => .var k (off + q) | .elt x i off => .elt x i (off + q) | y => y) (.pointer (some ⟨b, o + q, none⟩)) := by
  rintro (⟨k, off, cs, rfl, hk⟩ | ⟨x, i, off, sz, es, rfl, hc, hx⟩)
  · obtain ⟨b, hb, hv⟩ := hu cs hk
    refine ⟨b, off, hv, fun cs' hk' => ⟨b, hb, rfl⟩⟩
  · cases x with
    | own sh sz es => exact absurd rfl (hx _ _ _)
    | sl fr sz' es' =>
      obtain ⟨b, o, n, cap, h1, h2⟩ := hu
      exact ⟨b, o + i * sz' + off, h2, b, o, n, cap, h1, by rw [Nat.add_assoc _ off q]⟩
    | ref l =>
      simp only [ASt.cont] at hc
      cases hl : σ.at l with
      | none => rw [hl] at hc; cases hc
      | some y =>
        rw [hl] at hc
        cases y <;> simp only [AV.elemsO] at hc <;> try cases hc
        rename_i sh
        obtain ⟨g, n, cap, h1, h2⟩ := hu sh sz es hl
        refine ⟨g, i * sz + off, h2, fun sh' sz' es' hl' => ?_⟩
        rw [hl] at hl'
        cases hl'
        exact ⟨g, n, cap, h1, by rw [Nat.add_assoc]⟩
    | _ => simp [ASt.cont, AV.elemsOf] at hc

theorem op_fieldAddr (hC : F.C = C) (hok : CfgOk C) (h : RI F I own σ a w) {dst : Option Tmp} {T ty : TypeId} {f : Nat} {x : Operand} {pos : String} {after : Array Edge} {g : Option (Nat × Bool)}
    (hw : (opR C σ dst ty (.fieldAddr T x f)).wp C K) : Quiet F I C.P ⟨dst, .fieldAddr T x f, ty, pos, after, g⟩ a w (Post F K) := by
  have hx := rd_ok h C 0 x
  simp only [opR] at hw
  generalize σ.rd C 0 x = y at hx hw
  cases hq : (C.ti T).kind <;> rw [hq] at hw <;> simp only [structF] at hw <;> try (cases y <;> exact hw.elim)
  rename_i fs
  have hfit := (hok.fit T (by rw [hq]; rfl)).kind
  rw [hq] at hfit
  obtain ⟨A, hu, _, hA⟩ := hfit
  cases hf : fs[f]? with
  | none => rw [hf] at hw; cases y <;> exact hw.elim
  | some p =>
    obtain ⟨foff, fsz, ft⟩ := p
    rw [hf] at hw
    obtain ⟨fd, i, e1, e2, e3, e4, e5, e6⟩ := hA f foff fsz ft hf
    have run : ∀ {w : World} {b o}, a.eval x = .pointer (some ⟨b, o, none⟩) → (execOp a.eval ⟨dst, .fieldAddr T x f, ty, pos, after, g⟩).run C.P w = .ok (.value (.pointer (some ⟨b, o + foff, none⟩))) w := by
      intro w b o hv
      have hne : ¬ i.size = 0 := by omega
      simp [execOp, Instr.fieldAt, run_underlying hu, e1, hv, Instr.sureAddr, fieldPlace, sizeOf, typeInfo, e3, e4, hne, Addr.add_lit, e2]
    cases y <;> simp only [addrR] at hw <;> try exact hw.elim
    case var k off =>
      obtain ⟨h1, hw⟩ := chk_ok hw
      obtain ⟨cs, hk⟩ := isSome_look h1
      obtain ⟨b, o, hv, hr⟩ := rv_shift hx foff (.inl ⟨k, off, cs, rfl, hk⟩)
      exact by_q (fun w2 hl2 => run hv) (wr_rv hC h hw hr)
    case elt z i off =>
      obtain ⟨h1, hw⟩ := chk_ok hw
      obtain ⟨⟨sz, es⟩, hk⟩ := Option.isSome_iff_exists.1 h1
      obtain ⟨b, o, hv, hr⟩ := rv_shift hx foff (.inr ⟨z, i, off, sz, es, rfl, hk, fun sh sz es e => by subst e; exact hx.elim⟩)
      exact by_q (fun w2 hl2 => run hv) (wr_rv hC h hw hr)

theorem aggPart_ok {M : Nat → Prop} {off n : Nat} {x y : AV} {v : Value} (hx : AR M I x v) (hy : aggPart off n x = some y) : ∃ vs, v = .agg vs ∧ off + n ≤ vs.size ∧ AR M I y (.agg (vs.extract off (off + n))) := by
  cases x <;> simp only [aggPart] at hy <;> try cases hy
  rename_i cs
  by_cases hle : off + n ≤ cs.length
  case neg => rw [if_neg hle] at hy; cases hy
  rw [if_pos hle] at hy
  cases hy
  cases hx with
  | agg _ vs hl h1 hh =>
    refine ⟨vs, rfl, by omega, .agg _ _ (by simp; omega) (fun j v hj => ?_) fun j c v hj hv => ?_⟩
    · rw [Array.getElem?_extract] at hj
      split at hj
      · exact h1 _ v hj
      · cases hj
    · rw [Array.getElem?_extract] at hv
      split at hv
      · rename_i hjl
        have hjn : j < n := by omega
        rw [List.getElem?_take_of_lt hjn, List.getElem?_drop] at hj
        exact hh _ c v hj hv
      · cases hv

theorem run_part_agg {P : Program} {ti : TypeId → TI} {T : TypeId} (hfit : Fit P ti T) (hag : (ti T).kind.isAgg = true) (vs : Array Value) (off : Nat) : (part T vs off).run P w = .ok (.agg (vs.extract off (off + (ti T).size))) w := by
  have h1 := fit_isAgg hfit w
  rw [hag] at h1
  simp [part, h1, fit_sizeOf hfit w]
theorem run_part_one {P : Program} {ti : TypeId → TI} {T : TypeId} (hfit : Fit P ti T) (hag : (ti T).kind.isAgg = false) (vs : Array Value) (off : Nat) {v : Value} (hv : vs[off]? = some v) : (part T vs off).run P w = .ok v w := by
  have h1 := fit_isAgg hfit w
  rw [hag] at h1
  simp [part, h1, hv]

/-- A part of an aggregate. -/
theorem part_ok (hC : F.C = C) (hok : CfgOk C) (h : RI F I own σ a w) {d : Option Nat} {T : TypeId} (hkn : (C.ti T).kind.known = true) {cs : List AV} {vs : Array Value} (hx : AR F.mo I (.agg cs) (.agg vs)) {off : Nat}
    (hw : (if (C.ti T).kind.isAgg = true then wrImm C σ d (aggPart off (C.ti T).size (.agg cs)) else wrImm C σ d cs[off]?).wp C K) : ∃ v, (∀ w2 : World, (part T vs off).run C.P w2 = .ok v w2) ∧ Post F K (a.put d v) w := by
  have hfit := hok.fit T hkn
  cases hag : (C.ti T).kind.isAgg with
  | true =>
    rw [if_pos hag] at hw
    refine ⟨_, fun _ => run_part_agg hfit hag vs off, wrImm_ok hC h hw fun y hy => ?_⟩
    obtain ⟨vs', e, _, hr⟩ := aggPart_ok hx hy
    cases e
    exact hr
  | false =>
    rw [if_neg (by rw [hag]; simp)] at hw
    cases hc : cs[off]? with
    | none => rw [hc] at hw; exact hw.elim
    | some y =>
      rw [hc] at hw
      cases hx with
      | agg _ _ hl h1 hh =>
        have hol : off < vs.size := by rw [← hl]; exact (List.getElem?_eq_some_iff.1 hc).1
        have hv := Array.getElem?_eq_getElem hol
        exact ⟨_, fun _ => run_part_one hfit hag vs off hv, wrImm_ok hC h hw fun y' hy' => by cases hy'; exact hh off y _ hc hv⟩

theorem ar_agg {M : Nat → Prop} {cs : List AV} {v : Value} (h : AR M I (.agg cs) v) : ∃ vs, v = .agg vs := by cases h; exact ⟨_, rfl⟩

theorem op_field (hC : F.C = C) (hok : CfgOk C) (h : RI F I own σ a w) {dst : Option Tmp} {T ty : TypeId} {f : Nat} {x : Operand} {pos : String} {after : Array Edge} {g : Option (Nat × Bool)}
    (hw : (opR C σ dst ty (.field T x f)).wp C K) : Quiet F I C.P ⟨dst, .field T x f, ty, pos, after, g⟩ a w (Post F K) := by
  have hx := rd_ok h C T x
  simp only [opR] at hw
  generalize σ.rd C T x = y at hx hw
  cases hq : (C.ti T).kind <;> rw [hq] at hw <;> simp only [structF] at hw <;> try (cases y <;> exact hw.elim)
  rename_i fs
  have hfit := (hok.fit T (by rw [hq]; rfl)).kind
  rw [hq] at hfit
  obtain ⟨A, hu, _, hA⟩ := hfit
  cases hf : fs[f]? with
  | none => rw [hf] at hw; cases y <;> exact hw.elim
  | some p =>
    obtain ⟨foff, fsz, ft⟩ := p
    rw [hf] at hw
    obtain ⟨fd, i, e1, e2, e3, e4, e5, e6⟩ := hA f foff fsz ft hf
    cases y <;> simp only [fieldR] at hw <;> try exact hw.elim
    rename_i cs
    obtain ⟨hkn, hw⟩ := chk_ok hw
    have har := (rv_imm rfl).1 hx
    obtain ⟨vs, hvs⟩ := ar_agg har
    rw [hvs] at har
    obtain ⟨v, hr, hp⟩ := part_ok hC hok h hkn har hw
    refine by_q (v := v) (fun w2 hl2 => ?_) hp
    simp [execOp, Instr.field, run_underlying hu, e1, hvs, asAgg, e2, e3, hr]

theorem op_index (hC : F.C = C) (hok : CfgOk C) (h : RI F I own σ a w) {dst : Option Tmp} {T ty : TypeId} {x ix : Operand} {pos : String} {after : Array Edge} {g : Option (Nat × Bool)}
    (hw : (opR C σ dst ty (.index T x ix)).wp C K) : Quiet F I C.P ⟨dst, .index T x ix, ty, pos, after, g⟩ a w (Post F K) := by
  have hx := rd_ok h C T x
  have hi := rd_ok h C 0 ix
  simp only [opR] at hw
  generalize σ.rd C T x = X at hx hw
  generalize σ.rd C 0 ix = J at hi hw
  generalize hq : (C.ti T).kind = kd at hw
  unfold idxR at hw
  split at hw
  · rename_i n e esz cs k i
    have ei := ar_int ((rv_imm rfl).1 hi)
    have har := (rv_imm rfl).1 hx
    obtain ⟨vs, hvs⟩ := ar_agg har
    rw [hvs] at har
    obtain ⟨hin, hw⟩ := hw
    obtain ⟨hkn, hw⟩ := chk_ok hw
    have hfit := (hok.fit T (by rw [hq]; rfl)).kind
    rw [hq] at hfit
    obtain ⟨hu, ie, hie, hsz, _⟩ := hfit
    obtain ⟨v, hr, hp⟩ := part_ok hC hok h hkn har hw
    refine by_q (v := v) (fun w2 hl2 => ?_) hp
    simp [execOp, Instr.index, ei, asIntOf, run_underlying hu, hvs, hin, sizeOf, typeInfo, hie, hsz, hr]
  · rename_i s k i
    have ei := ar_int ((rv_imm rfl).1 hi)
    have es := ar_str ((rv_imm rfl).1 hx)
    obtain ⟨hin, hw⟩ := hw
    have hu := (hok.fit T (by rw [hq]; rfl)).kind
    rw [hq] at hu
    have hil : i.toNat < s.length := by omega
    have hg : (⟨s.toArray⟩ : ByteArray)[i.toNat]? = some s[i.toNat] := by
      have hlt : i.toNat < (⟨s.toArray⟩ : ByteArray).size := hil
      have : (⟨s.toArray⟩ : ByteArray)[i.toNat]? = some ((⟨s.toArray⟩ : ByteArray)[i.toNat]'hlt) := dif_pos hlt
      rw [this]; rfl
    refine by_q (v := .int .u8 (s[i.toNat].toNat : Int)) (fun w2 hl2 => ?_) (wrImm_ok hC h hw fun y hy => ?_)
    · simp [execOp, Instr.index, ei, asIntOf, run_underlying (show C.P.underlying T = some .string from hu), es, hin.1, hg]
    · rw [List.getElem?_eq_getElem hil] at hy
      simp only [Option.map_some, Option.some.injEq] at hy
      subst hy
      exact .int _ _
  · exact hw.elim

theorem op_indexAddr (hC : F.C = C) (hok : CfgOk C) (h : RI F I own σ a w) {dst : Option Tmp} {T ty : TypeId} {x ix : Operand} {pos : String} {after : Array Edge} {g : Option (Nat × Bool)}
    (hw : (opR C σ dst ty (.indexAddr T x ix)).wp C K) : Quiet F I C.P ⟨dst, .indexAddr T x ix, ty, pos, after, g⟩ a w (Post F K) := by
  have hx := rd_ok h C T x
  have hi := rd_ok h C 0 ix
  simp only [opR] at hw
  generalize σ.rd C T x = X at hx hw
  generalize σ.rd C 0 ix = J at hi hw
  generalize hq : (C.ti T).kind = kd at hw
  have arr : ∀ {n : Nat} {e : TypeId} {esz : Nat} {i : Int} {q : IntKind}, kd = .arr n e esz → a.eval ix = .int q i → (0 ≤ i ∧ i < n) → ∀ {w : World} {b o : Nat}, a.eval x = .pointer (some ⟨b, o, none⟩) →
      (execOp a.eval ⟨dst, .indexAddr T x ix, ty, pos, after, g⟩).run C.P w = .ok (.value (.pointer (some ⟨b, o + i.toNat * esz, none⟩))) w := by
    intro n e esz i q hk ei hin w b o hv
    subst hk
    have hfit := (hok.fit T (by rw [hq]; rfl)).kind
    rw [hq] at hfit
    obtain ⟨hu, ie, hie, hsz, _⟩ := hfit
    simp [execOp, Instr.indexAt, ei, asIntOf, run_underlying hu, hv, Instr.sureAddr, hin, sizeOf, typeInfo, hie, hsz, Addr.add_lit]
  unfold idxAddrR at hw
  split at hw
  · rename_i n e esz k off q i
    have ei := ar_int ((rv_imm rfl).1 hi)
    obtain ⟨h1, hin, hw⟩ := chk_ok hw
    obtain ⟨cs, hk⟩ := isSome_look h1
    obtain ⟨b, o, hv, hr⟩ := rv_shift hx (i.toNat * esz) (.inl ⟨k, off, cs, rfl, hk⟩)
    exact by_q (fun w2 hl2 => arr rfl ei hin hv) (wr_rv hC h hw hr)
  · rename_i n e esz z j off q i
    have ei := ar_int ((rv_imm rfl).1 hi)
    obtain ⟨h1, hin, hw⟩ := chk_ok hw
    obtain ⟨⟨sz, es⟩, hk⟩ := Option.isSome_iff_exists.1 h1
    obtain ⟨b, o, hv, hr⟩ := rv_shift hx (i.toNat * esz) (.inr ⟨z, j, off, sz, es, rfl, hk, fun sh sz es e => by subst e; exact hx.elim⟩)
    exact by_q (fun w2 hl2 => arr rfl ei hin hv) (wr_rv hC h hw hr)
  · rename_i e esz eb q i
    have ei := ar_int ((rv_imm rfl).1 hi)
    cases hc : σ.cont X with
    | none => rw [hc] at hw; exact hw.elim
    | some p =>
      obtain ⟨sz, es⟩ := p
      rw [hc] at hw
      simp only [idxSl] at hw
      have hchk := chk_ok hw
      clear hw
      obtain ⟨h1, hin, hw⟩ := hchk
      simp only [decide_eq_true_eq] at h1
      subst h1
      have hfit := (hok.fit T (by rw [hq]; rfl)).kind
      rw [hq] at hfit
      obtain ⟨hu, ie, z, hie, hsz, _⟩ := hfit
      obtain ⟨base, n, cap, hv, hH⟩ := cont_ok h hx hc
      have hil : i.toNat < es.length := by omega
      obtain ⟨b, o, rfl, _⟩ := hH.at_ i.toNat _ (List.getElem?_eq_getElem hil)
      have hin' : 0 ≤ i ∧ i < (n : Int) := by rw [hH.n_eq]; exact hin
      refine by_q (v := .pointer (some ⟨b, o + i.toNat * sz, none⟩)) (fun w2 hl2 => ?_) (wr_rv hC h hw ?_)
      · simp [execOp, Instr.indexAt, ei, asIntOf, run_underlying hu, hv, hin', sizeOf, typeInfo, hie, hsz, Addr.add_lit]
      · cases X with
        | sl fr sz' es' =>
          simp only [ASt.cont, AV.elemsOf, Option.some.injEq, Prod.mk.injEq] at hc
          obtain ⟨rfl, rfl⟩ := hc
          exact ⟨b, o, n, cap, by rw [← hv]; exact (rv_imm rfl).1 hx, by rw [Nat.add_zero]⟩
        | ref l =>
          intro sh sz' es' hl
          simp only [ASt.cont, hl, AV.elemsO, Option.some.injEq, Prod.mk.injEq] at hc
          obtain ⟨rfl, rfl⟩ := hc
          have hcv := hx sh _ _ hl
          obtain ⟨u, hu', hr⟩ := h.slots l _ hl
          rw [hcv] at hu'
          cases hu'
          rcases hr with ⟨e, _⟩ | ⟨g', cap', e, _, _⟩
          · rw [hv] at e; cases e
          · rw [hv] at e
            cases e
            exact ⟨b, _, _, by rw [hcv, hv], by rw [Nat.zero_add, Nat.add_zero]⟩
        | own sh sz' es' =>
          obtain ⟨_, rfl, _⟩ := hx
          simp only [ASt.cont, AV.elemsOf, Option.some.injEq, Prod.mk.injEq] at hc
          rw [← hc.2] at hil
          simp at hil
        | _ => simp [ASt.cont, AV.elemsOf] at hc
  · exact hw.elim

end
end Go.Proofs.Ytmngjlgeojbghaa.VA
end
section
namespace Go.Proofs.Ytmngjlgeojbghaa.VA
section
variable {F : Fx} {I : Imm} {own : Nat → Option Loc} {σ : ASt} {a : Act} {w w' : World} {C : Cfg} {K : ASt → Prop} {Q : Exit → Act → World → Prop}

theorem run_bounds {P : Program} (isSlice : Bool) {len cap : Nat} {lo hi : Option Value} {l h : Int} (hl : (lo = none ∧ l = 0) ∨ ∃ k, lo = some (.int k l)) (hh : (hi = none ∧ h = len) ∨ ∃ k, hi = some (.int k h))
    (b : (0 ≤ h ∧ h ≤ len) ∧ 0 ≤ l ∧ l ≤ h) (hc : len ≤ cap) : (Instr.sliceBounds isSlice len cap lo hi none).run P w = .ok (l.toNat, h.toNat, cap) w := by
  have e : ((h.toNat : Nat) : Int) = h := by omega
  have h1 : ∀ k code, (Instr.sliceBound (.int k h) cap code).run P w = .ok h.toNat w := fun k code => run_sliceBound w k h cap code b.1.1 (by omega)
  have h2 : ∀ k code, (Instr.sliceBound (.int k l) h.toNat code).run P w = .ok l.toNat w := fun k code => run_sliceBound w k l h.toNat code b.2.1 (by omega)
  rcases hl with ⟨rfl, rfl⟩ | ⟨k, rfl⟩ <;> rcases hh with ⟨rfl, rfl⟩ | ⟨k', rfl⟩
  · simp [Instr.sliceBounds]
  · cases isSlice <;> simp [Instr.sliceBounds, h1]
  · have h2' := h2 k .sliceB
    simp only [Int.toNat_natCast] at h2'
    simp [Instr.sliceBounds, h2']
  · cases isSlice <;> simp [Instr.sliceBounds, h1, h2]

theorem optI_ok (h : RI F I own σ a w) {n : Nat} {x : Option Operand} {k : IntKind} {i : Int} (he : optI C σ n x = .int k i) : (x.map a.eval = none ∧ i = n) ∨ ∃ k, x.map a.eval = some (.int k i) := by
  cases x with
  | none => cases he; exact .inl ⟨rfl, rfl⟩
  | some q =>
    have := rd_ok h C 0 q
    simp only [optI] at he
    rw [he] at this
    exact .inr ⟨k, by rw [Option.map_some, ar_int ((rv_imm rfl).1 this)]⟩

theorem ar_cut {M : Nat → Prop} {fr : Bool} {sz : Nat} {es : List AV} {base : Option Addr} {n cap l h : Nat} (hx : AR M I (.sl fr sz es) (.slice base n cap)) (hlh : l ≤ h) (hh : h ≤ es.length) :
    AR M I (.sl fr sz ((es.drop l).take (h - l))) (sliced base l h cap sz) := by
  cases hx with
  | slnil =>
    have : h = 0 := by simpa using hh
    obtain rfl : l = 0 := by omega
    subst this
    exact .slnil fr sz _ _
  | sl _ _ _ b o _ _ hn hc vs hv hz hI hM =>
    unfold sliced
    by_cases e : cap = l
    · rw [if_pos e]
      have hlen : ((es.drop l).take (h - l)).length = 0 := by simp; omega
      rw [List.eq_nil_of_length_eq_zero hlen]
      exact .sl fr sz [] b o _ _ (by simp; omega) (by omega) vs (fun i e he => by simp at he) (fun i hi => by simp at hi) (fun i j c hi => by simp at hi) hM
    · rw [if_neg e]
      have hlen : ((es.drop l).take (h - l)).length = h - l := by simp; omega
      show AR M I _ (.slice (some ((⟨b, o, none⟩ : Addr).add (l * sz))) (h - l) (cap - l))
      rw [Addr.add_lit]
      refine .sl fr sz _ b (o + l * sz) _ _ hlen.symm (by omega) (fun i => vs (l + i)) (fun i e he => ?_) (fun i hi => hz _ (by omega)) (fun i j c hi hj => ?_) hM
      · have hi : i < h - l := by rw [← hlen]; exact (List.getElem?_eq_some_iff.1 he).1
        rw [List.getElem?_take_of_lt hi, List.getElem?_drop] at he
        exact hv _ e he
      · have := hI (l + i) j c (by omega) hj
        rw [Nat.add_mul] at this
        rw [← this]
        congr 1; omega

theorem bytes_cut (s : List UInt8) (l h : Nat) : (⟨s.toArray⟩ : ByteArray).extract l h = ⟨((s.drop l).take (h - l)).toArray⟩ := by
  apply ByteArray.ext
  simp [List.extract_eq_take_drop]

theorem look_delV (k : Nat) : ∀ (l : List (Nat × List AV)) (j : Nat), look (delV k l) j = if j = k then none else look l j
  | [], j => by simp [delV, look]
  | (i, cs) :: r, j => by
    unfold delV
    split
    · rename_i e
      subst e
      rw [look_delV k r j]
      by_cases e2 : j = k
      · rw [if_pos e2, if_pos e2]
      · rw [if_neg e2, if_neg e2, look, if_neg e2]
    · rename_i e
      simp only [look, look_delV k r j]
      by_cases e2 : j = i
      · subst e2
        rw [if_pos rfl, if_neg (fun e3 => e e3.symm), if_pos rfl]
      · rw [if_neg e2, if_neg e2]

theorem op_slice (hC : F.C = C) (hok : CfgOk C) (h : RI F I own σ a w) {dst : Option Tmp} {T ty : TypeId} {x : Operand} {lo hi : Option Operand} {pos : String} {after : Array Edge} {g : Option (Nat × Bool)}
    (hw : (opR C σ dst ty (.slice T x lo hi none)).wp C K) : Quiet F I C.P ⟨dst, .slice T x lo hi none, ty, pos, after, g⟩ a w (Post F K) := by
  have hx := rd_ok h C T x
  simp only [opR] at hw
  generalize σ.rd C T x = X at hx hw
  generalize hq : (C.ti T).kind = kd at hw
  have sl : ∀ {kd : TK}, (C.ti T).kind = kd → (cutImm C dst lo hi kd (σ.imm X)).wp C K → Quiet F I C.P ⟨dst, .slice T x lo hi none, ty, pos, after, g⟩ a w (Post F K) := by
    intro kd hq hw
    cases kd <;> simp only [cutImm] at hw <;> try exact hw.elim
    rename_i e esz eb
    cases hi' : σ.imm X with
    | none => rw [hi'] at hw; exact hw.elim
    | some q =>
      obtain ⟨y, τ⟩ := q
      rw [hi'] at hw
      cases y <;> simp only at hw <;> try exact hw.elim
      rename_i fr sz es
      have hchk := chk_ok hw
      clear hw
      obtain ⟨h1, hw⟩ := hchk
      simp only [decide_eq_true_eq] at h1
      subst h1
      obtain ⟨J, j1, j2, j3⟩ := imm_ok h hx hi'
      obtain ⟨base, n, cap, hv, hn, hcap, _⟩ := ar_holds j2.imm j3
      rw [hv] at j3
      cases hl : optI C τ 0 lo <;> rw [hl] at hw <;> try (exact hw.elim)
      rename_i kl l
      cases hh : optI C τ es.length hi <;> rw [hh] at hw <;> try (exact hw.elim)
      rename_i kh hi2
      obtain ⟨hb, hw⟩ := hw
      have hfit := (hok.fit T (by rw [hq]; rfl)).kind
      rw [hq] at hfit
      obtain ⟨hu, ie, z, hie, hsz, _⟩ := hfit
      have hbd := fun w2 : World => run_bounds (P := C.P) (w := w2) true (len := n) (cap := cap) (optI_ok j2 hl) (by rw [hn]; exact optI_ok j2 hh) (by rw [hn]; exact hb) hcap
      refine by_q (v := sliced base l.toNat hi2.toNat cap esz) (fun w2 hl2 => ?_) (wr_rv hC j2 hw (ar_cut j3 (by omega) (by omega)))
      simp [execOp, Instr.sliceAt, Instr.slice, run_underlying hu, hv, hbd, sizeOf, typeInfo, hie, hsz, sliced]
  unfold cutR at hw
  split at hw
  · rename_i s
    have es := ar_str ((rv_imm rfl).1 hx)
    have hu := (hok.fit T (by rw [hq]; rfl)).kind
    rw [hq] at hu
    cases hl : optI C σ 0 lo <;> rw [hl] at hw <;> try (exact hw.elim)
    rename_i kl l
    cases hh : optI C σ s.length hi <;> rw [hh] at hw <;> try (exact hw.elim)
    rename_i kh hi2
    obtain ⟨hb, hw⟩ := hw
    have hbd := fun w2 : World => run_bounds (P := C.P) (w := w2) false (len := s.length) (cap := s.length) (optI_ok h hl) (optI_ok h hh) hb (Nat.le_refl _)
    refine by_q (v := .string ⟨((s.drop l.toNat).take (hi2.toNat - l.toNat)).toArray⟩) (fun w2 hl2 => ?_) (wr_rv hC h hw (.str _))
    rw [← bytes_cut]
    rw [← bytes_size s] at hbd
    simp [execOp, Instr.sliceAt, Instr.slice, run_underlying (show C.P.underlying T = some .string from hu), es, hbd]
  · rename_i n e k
    have hchk := chk_ok hw
    clear hw
    obtain ⟨hn, hw⟩ := hchk
    simp only [Bool.and_eq_true, Option.isNone_iff_eq_none] at hn
    obtain ⟨rfl, rfl⟩ := hn
    cases hk : look σ.vars k with
    | none => rw [hk] at hw; exact hw.elim
    | some cs =>
      rw [hk] at hw
      have hchk := chk_ok hw
      clear hw
      obtain ⟨hc, hw⟩ := hchk
      simp only [Bool.and_eq_true, decide_eq_true_eq, List.all_eq_true] at hc
      obtain ⟨⟨⟨hlen, himm⟩, hone⟩, _⟩ := hc
      have hfit := (hok.fit T (by rw [hq]; rfl)).kind
      rw [hq] at hfit
      obtain ⟨hu, ie, hie, hsz, _⟩ := hfit
      obtain ⟨b, hb, hv⟩ := hx cs hk
      obtain ⟨b', e1, e2, e3, e4⟩ := h.boxes k cs hk
      rw [hb] at e1
      cases e1
      have hdel : ∀ j, look (σ.freeVar k).vars j = if j = k then none else look σ.vars j := look_delV k σ.vars
      have h1 : RI F I own (σ.freeVar k) a w := by
        refine h.weaken (fun l x hx => ⟨x, ?_, .inl rfl⟩) fun j cs' hj => ?_
        · cases l with
          | cell j i =>
            simp only [ASt.at, hdel] at hx ⊢
            by_cases e : j = k
            · rw [if_pos e] at hx; cases hx
            · rw [if_neg e] at hx; exact hx
          | _ => exact hx
        · rw [hdel] at hj
          by_cases e : j = k
          · rw [if_pos e] at hj; cases hj
          · rw [if_neg e] at hj; exact ⟨cs', hj, rfl⟩
      have hfree : FreeW (σ.freeVar k) own b := by
        intro l hl
        rw [e2] at hl
        cases hl
        exact ⟨fun _ _ _ e => (by cases e), fun k' e => (by cases e; rw [hdel, if_pos rfl])⟩
      have h2 := h1.immFree (n := n) hfree (h.mine b _ e2).1 (box_real h e2 hb)
      have cell : ∀ (j : Nat) x, cs[j]? = some x → ∃ v, w.cell? ⟨b, j, none⟩ = some v ∧ AR F.mo I x v ∧ v.oneCell' = true := by
        intro j x hx
        have hxm := List.mem_of_getElem? hx
        obtain ⟨v, hv, hr⟩ := h.slots (.cell k j) x (by simp only [ASt.at, hk, cellAt]; exact hx)
        simp only [conc, hb, cellOf] at hv
        obtain ⟨v', hv', h1', _⟩ := e4 j (List.getElem?_eq_some_iff.1 hx).1
        rw [hv] at hv'
        cases hv'
        exact ⟨v, hv, (srep_imm (himm x hxm)).1 hr, h1'⟩
      refine by_q (v := .slice (some ⟨b, 0, none⟩) n n) (fun w2 hl2 => ?_) (wr_rv hC h2 hw ?_)
      · have hadd : (⟨b, 0, none⟩ : Addr).add 0 = ⟨b, 0, none⟩ := by rw [Addr.add_lit]
        simp [execOp, Instr.sliceAt, run_underlying hu, hv, Instr.sureAddr, Instr.sliceBounds, sizeOf, typeInfo, hie, hadd]
      · refine .sl true 1 cs b 0 n n hlen.symm (Nat.le_refl _) (fun j => (w.cell? ⟨b, j, none⟩).getD undef) (fun j x hx => ?_) (fun j hj => ?_) (fun i j c hi hj => ?_) (fun _ => h.mko _ (h.mine b _ e2).1)
        · obtain ⟨v, v1, v2, _⟩ := cell j x hx
          rw [v1]
          exact v2.mono (fun _ h => h) (Imm.with_le h1.imm)
        · obtain ⟨v, v1, _, v3⟩ := cell j _ (List.getElem?_eq_getElem hj)
          rw [v1, Option.getD_some, cells_one v3]; rfl
        · obtain ⟨v, v1, _, v3⟩ := cell i _ (List.getElem?_eq_getElem hi)
          rw [v1, Option.getD_some, cells_one v3] at hj
          obtain ⟨rfl, rfl⟩ := get_one hj
          unfold Imm.with
          rw [if_pos ⟨rfl, by omega⟩]
          simpa using v1
  · exact sl hq hw

theorem op_makeFunc (hC : F.C = C) (h : RI F I own σ a w) {P : Program} {dst : Option Tmp} {f : FuncId} {first captured : Array Operand} {ty : TypeId} {pos : String} {after : Array Edge} {g : Option (Nat × Bool)}
    (hw : (opR C σ dst ty (.makeFunc (.func f) first captured)).wp C K) : Quiet F I P ⟨dst, .makeFunc (.func f) first captured, ty, pos, after, g⟩ a w (Post F K) := by
  obtain ⟨l1⟩ := first
  obtain ⟨l2⟩ := captured
  simp only [opR] at hw
  unfold mkFnR at hw
  split at hw
  · exact by_q (v := .func (.func f) #[] #[]) (fun w2 hl2 => by simp [execOp, Instr.makeFunc]) (wr_rv hC h hw (.fn f))
  · rename_i x
    have hx := rd_ok h C 0 x
    generalize hX : σ.rd C 0 x = X at hx hw
    unfold capR at hw
    split at hw
    · rename_i k
      cases hk : look σ.vars k with
      | none => rw [hk] at hw; exact hw.elim
      | some cs =>
        rw [hk] at hw
        have hchk := chk_ok hw
        clear hw
        obtain ⟨himm, hw⟩ := hchk
        simp only [List.all_eq_true] at himm
        obtain ⟨b, hb, hv⟩ := hx cs hk
        obtain ⟨b', e1, e2, e3, e4⟩ := h.boxes k cs hk
        rw [hb] at e1
        cases e1
        have hdel : ∀ j, look (σ.freeVar k).vars j = if j = k then none else look σ.vars j := look_delV k σ.vars
        have h1 : RI F I own (σ.freeVar k) a w := by
          refine h.weaken (fun l x hx => ⟨x, ?_, .inl rfl⟩) fun j cs' hj => ?_
          · cases l with
            | cell j i =>
              simp only [ASt.at, hdel] at hx ⊢
              by_cases e : j = k
              · rw [if_pos e] at hx; cases hx
              · rw [if_neg e] at hx; exact hx
            | _ => exact hx
          · rw [hdel] at hj
            by_cases e : j = k
            · rw [if_pos e] at hj; cases hj
            · rw [if_neg e] at hj; exact ⟨cs', hj, rfl⟩
        have hfree : FreeW (σ.freeVar k) own b := by
          intro l hl
          rw [e2] at hl
          cases hl
          exact ⟨fun _ _ _ e => (by cases e), fun k' e => (by cases e; rw [hdel, if_pos rfl])⟩
        have h2 := h1.immFree (n := cs.length) hfree (h.mine b _ e2).1 (box_real h e2 hb)
        have cell : ∀ (j : Nat) x, cs[j]? = some x → ∃ v, w.cell? ⟨b, j, none⟩ = some v ∧ AR F.mo I x v ∧ v.oneCell' = true := by
          intro j x hx
          have hxm := List.mem_of_getElem? hx
          obtain ⟨v, hv, hr⟩ := h.slots (.cell k j) x (by simp only [ASt.at, hk, cellAt]; exact hx)
          simp only [conc, hb, cellOf] at hv
          obtain ⟨v', hv', h1', _⟩ := e4 j (List.getElem?_eq_some_iff.1 hx).1
          rw [hv] at hv'
          cases hv'
          exact ⟨v, hv, (srep_imm (himm x hxm)).1 hr, h1'⟩
        obtain ⟨vs, hvl, hvs⟩ : ∃ vs : List Value, vs.length = cs.length ∧ ∀ j, j < cs.length → vs[j]? = w.cell? ⟨b, j, none⟩ := by
          refine ⟨(List.range cs.length).map fun j => (w.cell? ⟨b, j, none⟩).getD undef, by simp, fun j hj => ?_⟩
          obtain ⟨v, v1, _⟩ := cell j _ (List.getElem?_eq_getElem hj)
          simp [hj, v1]
        refine by_q (v := .func (.func f) #[] #[.pointer (some ⟨b, 0, none⟩)]) (fun w2 hl2 => by simp [execOp, Instr.makeFunc, hv]) (wr_rv hC h2 hw (.ext _ (I.with w b cs.length) _ (fun _ _ _ e => e) rfl ⟨b, rfl, ?_⟩))
        refine .sl false cs.length [.agg cs] b 0 1 1 rfl (Nat.le_refl _) (fun _ => .agg vs.toArray) (fun i e he => ?_) (fun i hi => by show vs.toArray.size = _; simp [hvl]) (fun i j c hi hj => ?_) (fun e => by cases e)
        · match i, he with
          | 0, he =>
            cases he
            refine .agg cs vs.toArray (by simp [hvl]) (fun j v hj => ?_) (fun j c v hc hj => ?_)
            · have hjl : j < cs.length := by have := (Array.getElem?_eq_some_iff.1 hj).1; simpa [hvl] using this
              obtain ⟨u, u1, _, u3⟩ := cell j _ (List.getElem?_eq_getElem hjl)
              rw [List.getElem?_toArray, hvs j hjl, u1] at hj
              cases hj; exact u3
            · have hjl := (List.getElem?_eq_some_iff.1 hc).1
              obtain ⟨u, u1, u2, _⟩ := cell j c hc
              rw [List.getElem?_toArray, hvs j hjl, u1] at hj
              cases hj
              exact (u2.mono (fun _ h => h) (Imm.with_le h1.imm)).tt
        · obtain rfl : i = 0 := by simpa using hi
          have hj : vs.toArray[j]? = some c := hj
          have hjl : j < cs.length := by have := (Array.getElem?_eq_some_iff.1 hj).1; simpa [hvl] using this
          rw [List.getElem?_toArray, hvs j hjl] at hj
          unfold Imm.with
          rw [if_pos ⟨rfl, by omega⟩]
          simpa using hj
    · exact hw.elim
  · exact hw.elim

theorem asU8_ok : ∀ (es : List AV) (s : List UInt8), asU8 es = some s → ∃ ns : List Int, es = ns.map (AV.int .u8) ∧ s = ns.map fun n => UInt8.ofNat n.toNat
  | [], s, h => by cases h; exact ⟨[], rfl, rfl⟩
  | e :: r, s, h => by
    unfold asU8 at h
    split at h
    · cases h; rename_i h1; cases h1
    · rename_i n r' h1
      cases h1
      cases hr : asU8 r with
      | none => rw [hr] at h; cases h
      | some l =>
        rw [hr] at h
        cases h
        obtain ⟨ns, h1, h2⟩ := asU8_ok r l hr
        exact ⟨n :: ns, by rw [h1]; rfl, by rw [h2]; rfl⟩
    · cases h
theorem foldl_push : ∀ (ns : List Int) (r : ByteArray), ns.foldl (fun r n => r.push (UInt8.ofNat n.toNat)) r = ⟨r.data ++ (ns.map fun n => UInt8.ofNat n.toNat).toArray⟩
  | [], r => by simp
  | n :: ns, r => by
    rw [List.foldl_cons, foldl_push ns]
    simp [ByteArray.push]

theorem op_convert (hC : F.C = C) (hok : CfgOk C) (h : RI F I own σ a w) {dst : Option Tmp} {S T ty : TypeId} {x : Operand} {pos : String} {after : Array Edge} {g : Option (Nat × Bool)}
    (hw : (opR C σ dst ty (.convert S T x)).wp C K) : Oper.wp C.P ⟨dst, .convert S T x, ty, pos, after, g⟩ a w (Post F K) Q := by
  have hx := rd_ok h C S x
  simp only [opR] at hw
  generalize σ.rd C S x = X at hx hw
  generalize hq : (C.ti S).kind = ks at hw
  generalize hq' : (C.ti T).kind = kt at hw
  unfold convR at hw
  split at hw
  · rename_i k1 k k2 n
    have e := ar_int ((rv_imm rfl).1 hx)
    have hS := (hok.fit S (by rw [hq]; rfl)).kind
    have hT := (hok.fit T (by rw [hq']; rfl)).kind
    rw [hq] at hS
    rw [hq'] at hT
    refine by_value (w' := w) (v := .int k (k.wrap n)) ?_ (wr_int hC h hw)
    simp [execOp, convert, run_underlying (show C.P.underlying S = some (.int k1) from hS), run_underlying (show C.P.underlying T = some (.int k) from hT), e, Conv.intToInt]
  · rename_i s
    have e := ar_str ((rv_imm rfl).1 hx)
    have hS := (hok.fit S (by rw [hq]; rfl)).kind
    have hT := (hok.fit T (by rw [hq']; rfl)).kind
    rw [hq] at hS
    rw [hq'] at hT
    refine by_value (w' := w) (v := .string ⟨s.toArray⟩) ?_ (wr_str hC h hw)
    simp [execOp, convert, run_underlying (show C.P.underlying S = some .string from hS), run_underlying (show C.P.underlying T = some .string from hT), e]
  · rename_i e0 esz eb s
    have e := ar_str ((rv_imm rfl).1 hx)
    have hS := (hok.fit S (by rw [hq]; rfl)).kind
    have hT := (hok.fit T (by rw [hq']; rfl)).kind
    rw [hq] at hS
    rw [hq'] at hT
    have hchk := chk_ok hw
    clear hw
    obtain ⟨h1, hlen, hw⟩ := hchk
    have hE : C.P.underlying e0 = some (.int .u8) := by
      cases hk : (C.ti e0).kind <;> rw [hk] at h1 <;> try cases h1
      rename_i k
      cases k <;> try cases h1
      have := (hok.fit e0 (by rw [hk]; rfl)).kind
      rw [hk] at this
      exact this
    have hr := run_bytes_of_string (P := C.P) w S T e0 ⟨s.toArray⟩ hS hT.1 hE
    rw [bytes_size] at hr
    have hge := grownCap_ge w s.length 0 e0
    have hcm := grownCap_le_maxLen w s.length 0 e0 (by simp only [maxLen]; omega)
    have hsz : (bytesRow (⟨s.toArray⟩ : ByteArray) (grownCap w s.length 0 e0)).size = grownCap w s.length 0 e0 := by
      simp [bytesRow, bytes_size]; omega
    have hl : Lies F.mo I 1 (s.map u8) fun o => (bytesRow (⟨s.toArray⟩ : ByteArray) (grownCap w s.length 0 e0))[o]? := by
      intro i q hi
      rw [List.getElem?_map] at hi
      cases hs : s[i]? with
      | none => rw [hs] at hi; cases hi
      | some b =>
        rw [hs] at hi
        cases hi
        refine ⟨.int .u8 (b.toNat : Int), .int _ _, rfl, fun j c hj => ?_⟩
        obtain ⟨rfl, rfl⟩ := get_one hj
        have hil := (List.getElem?_eq_some_iff.1 hs).1
        rw [Nat.mul_one, Nat.add_zero]
        show (bytesRow (⟨s.toArray⟩ : ByteArray) (grownCap w s.length 0 e0))[i]? = _
        unfold bytesRow
        rw [Array.getElem?_append_left (by rw [Array.size_map]; exact hil)]
        simp [hs]
    obtain ⟨h2, hh⟩ := (h.grow (fr_drew w)).row_new (T := e0) (fz := ((bytesRow (⟨s.toArray⟩ : ByteArray) (grownCap w s.length 0 e0)).size, (bytesRow (⟨s.toArray⟩ : ByteArray) (grownCap w s.length 0 e0)).size + 1)) (sz := 1) (cap := grownCap w s.length 0 e0) (es := s.map u8)
      (cur := bytesRow (⟨s.toArray⟩ : ByteArray) (grownCap w s.length 0 e0)) (by simpa using hge) hcm (by rw [hsz, Nat.mul_one]) (fun o ho => by simp only; omega) (fun e => absurd e (by decide)) hl
    refine by_value (v := .slice (some ⟨w.heap.size, 0, none⟩) s.length (grownCap w s.length 0 e0)) (w' := _) ?_ (wr_own hC h2 hw (by simpa using hh))
    simp only [execOp, e]
    simp [hr]
  · rename_i e0 esz eb
    have hchk := chk_ok hw
    clear hw
    obtain ⟨h1, hw⟩ := hchk
    have hS := (hok.fit S (by rw [hq]; rfl)).kind
    have hT := (hok.fit T (by rw [hq']; rfl)).kind
    rw [hq] at hS
    rw [hq'] at hT
    have hE : C.P.underlying e0 = some (.int .u8) := by
      cases hk : (C.ti e0).kind <;> rw [hk] at h1 <;> try cases h1
      rename_i k
      cases k <;> try cases h1
      have := (hok.fit e0 (by rw [hk]; rfl)).kind
      rw [hk] at this
      exact this
    cases hc : σ.cont X with
    | none => rw [hc] at hw; exact hw.elim
    | some p =>
      obtain ⟨sz, es⟩ := p
      rw [hc] at hw
      unfold convCont at hw
      split at hw
      · rename_i es' he'
        cases he'
        cases hs : asU8 es with
        | none => rw [hs] at hw; exact hw.elim
        | some s =>
          rw [hs] at hw
          obtain ⟨base, n, cap, hv, hH⟩ := cont_ok h hx hc
          obtain ⟨ns, hes, hss⟩ := asU8_ok es s hs
          refine by_value (w' := w) (v := .string ⟨s.toArray⟩) ?_ (wr_str hC h hw)
          have hcv := run_convert_bytes_string (P := C.P) w S T e0 base n cap hS.1 hE hT
          have hbs : (Conv.bytesToString (.slice base n cap)).run C.P w = .ok (.string ⟨s.toArray⟩) w := by
            cases base with
            | none =>
              have : es = [] := by
                cases es with
                | nil => rfl
                | cons e r =>
                  obtain ⟨b, o, h1, _⟩ := hH.at_ 0 e rfl
                  cases h1
              subst this
              cases hs
              simp [Conv.bytesToString]
              rfl
            | some p =>
              have hl : (loadCells p n).run C.P w = .ok (ns.map (Value.int .u8)).toArray w := by
                have := run_loadCells_list (P := C.P) w p (ns.map (Value.int .u8)) (fun j v hj => by
                  rw [List.getElem?_map] at hj
                  cases hn : ns[j]? with
                  | none => rw [hn] at hj; cases hj
                  | some m =>
                    rw [hn] at hj
                    cases hj
                    obtain ⟨b, o, h1, h2⟩ := hH.at_ j (.int .u8 m) (by rw [hes, List.getElem?_map, hn]; rfl)
                    cases h1
                    obtain ⟨v, h3, h4, h5⟩ := h2 j (.int .u8 m) (by rw [hes, List.getElem?_map, hn]; rfl)
                    have h6 := ar_int h3
                    subst h6
                    have := h5 0 (.int .u8 m) rfl
                    rw [Addr.add_lit]
                    simpa using this)
                rw [List.length_map] at this
                rw [hH.n_eq, hes, List.length_map]
                exact this
              rw [run_bytesToString w p n cap ns hl, foldl_push, hss]
              have he0 : ByteArray.empty.data = #[] := rfl
              rw [he0]
              simp
          simp [execOp, hv, hcv, hbs]
      · exact hw.elim
  · exact hw.elim

end
end Go.Proofs.Ytmngjlgeojbghaa.VA
end
section
namespace Go.Proofs.Ytmngjlgeojbghaa.VA
section
variable {F : Fx} {I : Imm} {own : Nat → Option Loc} {σ : ASt} {a : Act} {w w' : World} {C : Cfg} {K : ASt → Prop} {Q : Exit → Act → World → Prop}

theorem zero_one {x : AV} {v : Value} (h : zeroIs x v) : v.oneCell' = true := by
  cases x <;> simp only [zeroIs] at h <;> first | exact h.elim | (subst h; rfl) | (rw [h.2]; rfl)
theorem zero_cell {M : Nat → Prop} {x : AV} {v : Value} (h : zeroIs x v) : AR M I x.frz v := by
  cases x <;> simp only [zeroIs] at h
  case int k n => subst h; exact .int k n
  case bool b => subst h; exact .bool b
  case str s => subst h; exact .str s
  case nilf => subst h; exact .nilf
  case own sh sz es => obtain ⟨rfl, rfl⟩ := h; exact .slnil true sz none 0
theorem zero_cell0 {M : Nat → Prop} {x : AV} {v : Value} (h : zeroIs x v) : AR M I x.frz0 v := by
  cases x <;> simp only [zeroIs] at h
  case int k n => subst h; exact .int k n
  case bool b => subst h; exact .bool b
  case str s => subst h; exact .str s
  case nilf => subst h; exact .nilf
  case own sh sz es => obtain ⟨rfl, rfl⟩ := h; exact .ext nilP I _ (fun _ _ _ e => e) rfl rfl
/-- The zero of a type that has parts. -/
theorem zero_ar0 {P : Program} {ti : TypeId → TI} {T : TypeId} (h : Fit P ti T) (hk : (ti T).kind.isAgg = true) (M : Nat → Prop) (I : Imm) :
    ∃ i z, P.info? T = some i ∧ i.size = (ti T).size ∧ i.zero = some z ∧ z.cells.size = (ti T).size ∧ AR M I (.agg ((ti T).zero.map AV.frz0)) z := by
  obtain ⟨i, z, e1, e2, e3, e4, e5, e6, e7, e8⟩ := h.info
  refine ⟨i, z, e1, e2, e3, e4, ?_⟩
  obtain ⟨cs, rfl⟩ := e7 hk
  have e4' : cs.size = (ti T).size := e4
  refine .agg _ _ (by rw [List.length_map, e5, e4']) (fun j v hv => ?_) (fun j c v hc hv => ?_)
  · have hj : j < (ti T).zero.length := by rw [e5, ← e4']; exact (Array.getElem?_eq_some_iff.1 hv).1
    exact zero_one (e6 j _ v (List.getElem?_eq_getElem hj) hv)
  · rw [List.getElem?_map] at hc
    cases hx : (ti T).zero[j]? with
    | none => rw [hx] at hc; cases hc
    | some x =>
      rw [hx] at hc
      cases hc
      exact zero_cell0 (e6 j x v hx hv)
/-- The zero of a type. -/
theorem zero_ar {P : Program} {ti : TypeId → TI} {T : TypeId} (h : Fit P ti T) (M : Nat → Prop) (I : Imm) :
    ∃ i z, P.info? T = some i ∧ i.size = (ti T).size ∧ i.zero = some z ∧ z.cells.size = (ti T).size ∧ AR M I (ti T).zeroVal z := by
  obtain ⟨i, z, e1, e2, e3, e4, e5, e6, e7, e8⟩ := h.info
  refine ⟨i, z, e1, e2, e3, e4, ?_⟩
  unfold TI.zeroVal
  cases hk : (ti T).kind.isAgg with
  | true =>
    rw [if_pos rfl]
    obtain ⟨cs, rfl⟩ := e7 hk
    have e4' : cs.size = (ti T).size := e4
    refine .agg _ _ (by rw [List.length_map, e5, e4']) (fun j v hv => ?_) (fun j c v hc hv => ?_)
    · have hj : j < (ti T).zero.length := by rw [e5, ← e4']; exact (Array.getElem?_eq_some_iff.1 hv).1
      exact zero_one (e6 j _ v (List.getElem?_eq_getElem hj) hv)
    · rw [List.getElem?_map] at hc
      cases hx : (ti T).zero[j]? with
      | none => rw [hx] at hc; cases hc
      | some x =>
        rw [hx] at hc
        cases hc
        exact zero_cell (e6 j x v hx hv)
  | false =>
    rw [if_neg (by simp)]
    obtain ⟨hs, h1⟩ := e8 hk
    rw [hs] at e5
    match hz : (ti T).zero, e5 with
    | [x], _ =>
      exact zero_cell (e6 0 x z (by rw [hz]; rfl) (by rw [cells_one h1]; rfl))

theorem madeCells_lies {M : Nat → Prop} {z : Value} {e : AV} {sz n : Nat} (h : AR M I e z) (hs : z.cells.size = sz) : Lies M I sz (List.replicate n e) fun o => (madeCells z.cells (n * sz))[o]? := by
  intro i x hx
  have hi : i < n := by
    have := (List.getElem?_eq_some_iff.1 hx).1
    simpa using this
  rw [List.getElem?_replicate, if_pos hi] at hx
  cases hx
  refine ⟨z, h, hs, fun j c hj => ?_⟩
  have hjs : j < sz := by rw [← hs]; exact (Array.getElem?_eq_some_iff.1 hj).1
  have hlt : i * sz + j < n * sz := idx_lt hi hjs
  show (madeCells z.cells (n * sz))[i * sz + j]? = some c
  unfold madeCells
  rw [Array.getElem?_map, Array.getElem?_range, if_pos hlt]
  have hm : (i * sz + j) % z.cells.size = j := by rw [hs, Nat.mul_comm, Nat.mul_add_mod, Nat.mod_eq_of_lt hjs]
  simp only [Option.map_some, hm, Option.some.injEq]
  obtain ⟨h1, h2⟩ := Array.getElem?_eq_some_iff.1 hj
  rw [← h2]
  exact getElem!_pos z.cells j h1

theorem op_makeSlice (hC : F.C = C) (hok : CfgOk C) (h : RI F I own σ a w) {dst : Option Tmp} {T ty : TypeId} {l c : Operand} {pos : String} {after : Array Edge} {g : Option (Nat × Bool)}
    (hw : (opR C σ dst ty (.makeSlice T l c)).wp C K) : Oper.wp C.P ⟨dst, .makeSlice T l c, ty, pos, after, g⟩ a w (Post F K) Q := by
  have hl := rd_ok h C 0 l
  have hc := rd_ok h C 0 c
  simp only [opR] at hw
  generalize σ.rd C 0 l = L at hl hw
  generalize σ.rd C 0 c = R at hc hw
  generalize hq : (C.ti T).kind = kd at hw
  unfold makeR at hw
  split at hw
  · rename_i e esz eb n m
    have el := ar_int ((rv_imm rfl).1 hl)
    have ec := ar_int ((rv_imm rfl).1 hc)
    have hchk := chk_ok hw
    clear hw
    obtain ⟨hkn, ⟨rfl, h0, hb⟩, hw⟩ := hchk
    have hfit := (hok.fit T (by rw [hq]; rfl)).kind
    rw [hq] at hfit
    obtain ⟨hu, ie, z, hie, hsz, hby, hb0, hz, hzs, _⟩ := hfit
    obtain ⟨i2, z2, e1, e2, e3, e4, e5⟩ := zero_ar (hok.fit e hkn) F.mo I
    rw [hie] at e1
    cases e1
    rw [hz] at e3
    cases e3
    have hn : n.toNat * 1 ≤ n.toNat * eb := Nat.mul_le_mul_left _ hb0
    have hbi : (ie.bytes : Int) * n ≤ 281474976710656 := by
      rw [hby]
      have : ((n.toNat * eb : Nat) : Int) ≤ 281474976710656 := by omega
      rw [Int.natCast_mul, Int.toNat_of_nonneg h0, Int.mul_comm] at this
      exact this
    have hr := run_make (P := C.P) w T e ie z hu hie hz .i64 .i64 n n h0 (Int.le_refl _) hbi (by omega)
    rw [hsz] at hr
    obtain ⟨h2, hh⟩ := h.row_new (T := e) (fz := (0, 0)) (sz := esz) (cap := n.toNat) (es := List.replicate n.toNat (C.ti e).zeroVal) (cur := madeCells z.cells (n.toNat * esz)) (by simp) (by simp only [maxLen]; omega)
      (by rw [size_madeCells]) (fun o _ => by simp) (fun _ o => by simp) (madeCells_lies e5 hzs)
    refine by_value (v := .slice (some ⟨w.heap.size, 0, none⟩) n.toNat n.toNat) (w' := _) ?_ (wr_own hC h2 hw (by simpa using hh))
    simp only [execOp, el, ec]
    simp [hr]
  · exact hw.elim

theorem exec_builtin (ρ : Operand → Value) (dst : Option Tmp) (c : Call) (b : Builtin) (hb : c.callee = .builtin b) (ty : TypeId) (pos : String) (after : Array Edge) (guard : Option (Nat × Bool)) :
    execOp ρ { dst, op := .call c, type := ty, pos, after, guard } = builtin b c.argTypes ty (c.args.map fun | .const _ => true | _ => false) (c.args.map ρ) := by
  obtain ⟨callee, args, ts⟩ := c
  simp only at hb
  subst hb
  exact BigFrame.execOp_builtin ρ dst b args ts ty pos after guard

theorem op_len (hC : F.C = C) (hok : CfgOk C) (h : RI F I own σ a w) {dst : Option Tmp} {ty : TypeId} {c : Call} (hb : c.callee = .builtin .len) {pos : String} {after : Array Edge} {g : Option (Nat × Bool)}
    (hw : (opR C σ dst ty (.call c)).wp C K) : Quiet F I C.P ⟨dst, .call c, ty, pos, after, g⟩ a w (Post F K) := by
  simp only [opR, hb, callR] at hw
  unfold callLen at hw
  split at hw
  case h_2 => exact hw.elim
  rename_i x S hxs hts
  have hx := rd_ok h C S x
  generalize σ.rd C S x = X at hx hw
  generalize hq : (C.ti S).kind = ks at hw
  have run : ∀ {w : World} {v : Value}, (Builtin.len_ #[S] ty #[a.eval x]).run C.P w = .ok v w → (execOp a.eval ⟨dst, .call c, ty, pos, after, g⟩).run C.P w = .ok (.value v) w := by
    intro w v hv
    rw [exec_builtin a.eval dst c .len hb ty pos after g, BigFrame.builtin_len]
    have e1 : c.argTypes = #[S] := by rw [← Array.toList_inj, hts]
    have e2 : c.args.map a.eval = #[a.eval x] := by rw [← Array.toList_inj, Array.toList_map, hxs]; rfl
    rw [e1, e2]
    simp [hv]
  unfold lenR at hw
  split at hw
  · rename_i s
    have e := ar_str ((rv_imm rfl).1 hx)
    have hS := (hok.fit S (by rw [hq]; rfl)).kind
    rw [hq] at hS
    refine by_q (v := .int .i64 s.length) (fun w2 hl2 => run ?_) (wr_int hC h hw)
    simp [Builtin.len_, run_underlying (show C.P.underlying S = some .string from hS), e, goInt, bytes_size]
  · rename_i e esz eb
    cases hc : σ.cont X with
    | none => rw [hc] at hw; exact hw.elim
    | some p =>
      obtain ⟨sz, es⟩ := p
      rw [hc] at hw
      obtain ⟨base, n, cap, hv, hH⟩ := cont_ok h hx hc
      have hS := (hok.fit S (by rw [hq]; rfl)).kind
      rw [hq] at hS
      refine by_q (v := .int .i64 es.length) (fun w2 hl2 => run ?_) (wr_int hC h hw)
      simp [Builtin.len_, run_underlying hS.1, hv, goInt, hH.n_eq]
  · exact hw.elim

theorem op_max (hC : F.C = C) (h : RI F I own σ a w) {dst : Option Tmp} {ty : TypeId} {c : Call} (hb : c.callee = .builtin .max) {pos : String} {after : Array Edge} {g : Option (Nat × Bool)}
    (hw : (opR C σ dst ty (.call c)).wp C K) : Quiet F I C.P ⟨dst, .call c, ty, pos, after, g⟩ a w (Post F K) := by
  simp only [opR, hb, callR] at hw
  unfold callMax at hw
  split at hw
  case h_2 => exact hw.elim
  rename_i x y hxs
  have hx := rd_ok h C ty x
  have hy := rd_ok h C ty y
  generalize σ.rd C ty x = X at hx hw
  generalize σ.rd C ty y = Y at hy hw
  unfold maxR at hw
  split at hw
  · rename_i k m q n
    have e1 := ar_int ((rv_imm rfl).1 hx)
    have e2 := ar_int ((rv_imm rfl).1 hy)
    refine by_q (v := .int k (if n > m then n else m)) (fun w2 hl2 => ?_) (wr_int hC h hw)
    rw [exec_builtin a.eval dst c .max hb ty pos after g, BigFrame.builtin_max]
    have e3 : c.args.map a.eval = #[a.eval x, a.eval y] := by rw [← Array.toList_inj, Array.toList_map, hxs]; rfl
    rw [e3, e1, e2]
    simp [Builtin.max_, Builtin.max2]
  · exact hw.elim

/-- What a slice in memory is laid behind a row. -/
theorem src_of {P : Program} {sz : Nat} {xs : List AV} {base : Option Addr} {n cap : Nat} (hH : Holds F I w sz xs base n cap) : ∃ news, Src P w sz (.slice base n cap) xs.length news ∧ Lies F.mo I sz xs fun o => news[o]? := by
  have hn := hH.n_eq
  subst hn
  cases hxs : xs with
  | nil =>
    refine ⟨[], ⟨fun w' => by simp [Builtin.lenOf], fun w' _ => ?_, by simp, fun v hv => by cases hv⟩, fun i e he => by simp at he⟩
    cases base with
    | none => simp [Builtin.firstCells]
    | some p => exact run_firstCells_some w' sz 0 p _ cap [] (by simp) fun j v hj => by simp at hj
  | cons e0 r =>
    obtain ⟨b, o, rfl, hl⟩ := hH.at_ 0 e0 (by rw [hxs]; rfl)
    rw [← hxs]
    have cell : ∀ q, q < xs.length * sz → ∃ v, w.cell? ⟨b, o + q, none⟩ = some v ∧ v.oneCell' = true := by
      intro q hq
      have hsz : 0 < sz := by
        rcases Nat.eq_zero_or_pos sz with h | h
        · rw [h] at hq; omega
        · exact h
      have hi : q / sz < xs.length := Nat.div_lt_of_lt_mul (by rw [Nat.mul_comm]; exact hq)
      obtain ⟨v, v1, v2, v3⟩ := hl (q / sz) _ (List.getElem?_eq_getElem hi)
      have hj : q % sz < v.cells.size := by rw [v2]; exact Nat.mod_lt _ hsz
      have hc := v3 (q % sz) _ (Array.getElem?_eq_getElem hj)
      simp only at hc
      rw [show q / sz * sz + q % sz = q by rw [Nat.mul_comm]; exact Nat.div_add_mod q sz] at hc
      exact ⟨_, hc, v1.one _ _ (Array.getElem?_eq_getElem hj)⟩
    refine ⟨(List.range (xs.length * sz)).map fun q => (w.cell? ⟨b, o + q, none⟩).getD undef, ⟨fun w' => by simp [Builtin.lenOf], fun w' hw' => ?_, by simp, fun v hv => ?_⟩, hl.weak fun q c hq hc => ?_⟩
    · refine run_firstCells_some w' sz xs.length ⟨b, o, none⟩ _ cap _ (by simp) fun j v hj => ?_
      have hjl : j < xs.length * sz := by
        have := (List.getElem?_eq_some_iff.1 hj).1
        simpa using this
      obtain ⟨u, hu, _⟩ := cell j hjl
      rw [List.getElem?_map, List.getElem?_range hjl] at hj
      simp only [Option.map_some, hu, Option.getD_some, Option.some.injEq] at hj
      subst hj
      rw [hw', Addr.add_lit]; exact hu
    · obtain ⟨q, hq, rfl⟩ := List.mem_map.1 hv
      obtain ⟨u, hu, h1⟩ := cell q (List.mem_range.1 hq)
      rw [hu]; exact h1
    · rw [List.getElem?_map, List.getElem?_range hq]
      simp [hc]
theorem src_str {P : Program} {M : Nat → Prop} (s : List UInt8) : ∃ news, Src P w 1 (.string ⟨s.toArray⟩) (s.map u8).length news ∧ Lies M I 1 (s.map u8) fun o => news[o]? := by
  refine ⟨s.map fun b => .int .u8 (b.toNat : Int), ⟨fun w' => by simp [Builtin.lenOf, bytes_size], fun w' _ => ?_, by simp, fun v hv => ?_⟩, fun i q hi => ?_⟩
  · have : (⟨s.toArray⟩ : ByteArray).extract 0 (s.map u8).length = ⟨s.toArray⟩ := by
      rw [bytes_cut]; simp
    simp only [Builtin.firstCells]
    rw [this]
    simp
  · obtain ⟨b, _, rfl⟩ := List.mem_map.1 hv
    rfl
  · rw [List.getElem?_map] at hi
    cases hs : s[i]? with
    | none => rw [hs] at hi; cases hi
    | some b =>
      rw [hs] at hi
      cases hi
      refine ⟨.int .u8 (b.toNat : Int), .int _ _, rfl, fun j c hj => ?_⟩
      obtain ⟨rfl, rfl⟩ := get_one hj
      show (s.map fun b => Value.int .u8 (b.toNat : Int))[i * 1 + 0]? = _
      rw [Nat.mul_one, Nat.add_zero, List.getElem?_map, hs]; rfl

theorem appSrc_ok {P : Program} (h : RI F I own σ a w) {x : AV} {v : Value} {sz : Nat} {xs : List AV} (hx : RV F I own σ a w x v) (he : appSrc σ x = some (sz, xs)) :
    ∃ news, Src P w sz v xs.length news ∧ Lies F.mo I sz xs fun o => news[o]? := by
  cases x <;> simp only [appSrc] at he
  case str s =>
    cases he
    rw [ar_str ((rv_imm rfl).1 hx)]
    exact src_str s
  all_goals
    obtain ⟨base, n, cap, rfl, hH⟩ := cont_ok h hx he
    have hn := hH.n_eq
    exact src_of hH

theorem appKind_ok (hok : CfgOk C) {T : TypeId} (h : appKind (C.ti T).kind = true) : ∃ d, C.P.underlying T = some d ∧ ∀ k, d ≠ .int k := by
  cases hk : (C.ti T).kind <;> rw [hk] at h <;> try cases h
  · have := (hok.fit T (by rw [hk]; rfl)).kind
    rw [hk] at this
    exact ⟨_, this, fun k e => by cases e⟩
  · have := (hok.fit T (by rw [hk]; rfl)).kind
    rw [hk] at this
    exact ⟨_, this.1, fun k e => by cases e⟩

theorem op_append (hC : F.C = C) (hok : CfgOk C) (h : RI F I own σ a w) {dst : Option Tmp} {ty : TypeId} {c : Call} (hb : c.callee = .builtin .append) {pos : String} {after : Array Edge} {g : Option (Nat × Bool)}
    (hw : (opR C σ dst ty (.call c)).wp C K) : Oper.wp C.P ⟨dst, .call c, ty, pos, after, g⟩ a w (Post F K) Q := by
  simp only [opR, hb, callR] at hw
  unfold callApp at hw
  split at hw
  case h_2 => exact hw.elim
  rename_i s x S X hxs hts
  have hchk := chk_ok hw
  clear hw
  obtain ⟨hak, hw⟩ := hchk
  have hs := rd_ok h C S s
  have hx := rd_ok h C X x
  generalize σ.rd C S s = A at hs hw
  generalize σ.rd C X x = B at hx hw
  generalize hq : (C.ti S).kind = ks at hw
  cases ks <;> simp only [appR] at hw <;> try exact hw.elim
  rename_i e esz eb
  have hfit := (hok.fit S (by rw [hq]; rfl)).kind
  rw [hq] at hfit
  obtain ⟨hu, ie, z, hie, hsz, hby, hb0, hz, hzs, _⟩ := hfit
  obtain ⟨d', ht', hd⟩ := appKind_ok hok hak
  have run : ∀ {v : Value} {w' : World}, (Builtin.append_ #[S, X] ty #[a.eval s, a.eval x]).run C.P w = .ok v w' → (execOp a.eval ⟨dst, .call c, ty, pos, after, g⟩).run C.P w = .ok (.value v) w' := by
    intro v w' hv
    rw [exec_builtin a.eval dst c .append hb ty pos after g, BigFrame.builtin_append]
    have e1 : c.argTypes = #[S, X] := by rw [← Array.toList_inj, hts]
    have e2 : c.args.map a.eval = #[a.eval s, a.eval x] := by rw [← Array.toList_inj, Array.toList_map, hxs]; rfl
    rw [e1, e2]
    simp [hv]
  cases hsrc : appSrc σ B with
  | none => rw [hsrc] at hw; unfold appTo at hw; cases A <;> simp only at hw <;> first | exact hw.elim | (rename_i es; cases es <;> exact hw.elim)
  | some p =>
    obtain ⟨zx, xs⟩ := p
    rw [hsrc] at hw
    obtain ⟨news, hS, hL⟩ := appSrc_ok (P := C.P) h hx hsrc
    unfold appTo at hw
    split at hw
    · rename_i sh0 sz0 zx' xs' he
      cases he
      have hchk := chk_ok hw
      clear hw
      obtain ⟨h1, h2, hw⟩ := hchk
      simp only [decide_eq_true_eq] at h1
      subst h1
      obtain ⟨rfl, _, hv⟩ := hs
      obtain ⟨v', w', J, hr, j1, j2, j3⟩ := append_hand (ty := ty) (sh := false) (es := []) (v := a.eval s) hu hie hz ht' hd hsz hzs (by omega) h (.inl ⟨hv, rfl⟩) hS hL (by simpa [hby] using h2)
      exact by_value (run hr) (wr_own hC j2 hw (by simpa using j3))
    · rename_i l zx' xs' he
      cases he
      have hchk := chk_ok hw
      clear hw
      obtain ⟨h1, hw⟩ := hchk
      simp only [decide_eq_true_eq] at h1
      subst h1
      cases hl : σ.at l with
      | none => rw [hl] at hw; exact hw.elim
      | some q =>
        rw [hl] at hw
        cases q <;> simp only [appRef] at hw <;> try exact hw.elim
        rename_i sh sz es
        have hchk := chk_ok hw
        clear hw
        obtain ⟨h1, h2, hw⟩ := hchk
        simp only [decide_eq_true_eq] at h1
        subst h1
        obtain ⟨u, k1, k2, k3⟩ := h.inHand hl
        have hv : conc a w l = some (a.eval s) := hs sh sz es hl
        rw [k1] at hv
        cases hv
        obtain ⟨v', w', J, hr, j1, j2, j3⟩ := append_hand (ty := ty) hu hie hz ht' hd hsz hzs (by omega) k2 k3 hS hL (by simpa [hby] using h2)
        exact by_value (run hr) (wr_own hC j2 hw j3)
    · rename_i p zx' xs' he
      cases he
      obtain ⟨rfl, hw⟩ := hw
      have hchk := chk_ok hw
      clear hw
      obtain ⟨h1, h2, hw⟩ := hchk
      simp only [decide_eq_true_eq] at h1
      subst h1
      have hv : a.eval s = .slice none 0 0 := by
        have ha : AR F.mo I (.ext nilP) (a.eval s) := (rv_imm rfl).1 hs
        generalize a.eval s = u at ha
        cases ha with
        | ext _ _ _ _ _ hp => exact hp
      obtain ⟨v', w', J, hr, j1, j2, j3⟩ := append_hand (ty := ty) (sh := false) (es := []) (v := a.eval s) hu hie hz ht' hd hsz hzs (by omega) h (.inl ⟨hv, rfl⟩) hS hL (by simpa [hby] using h2)
      exact by_value (run hr) (wr_own hC j2 hw (by simpa using j3))
    · exact hw.elim

end
end Go.Proofs.Ytmngjlgeojbghaa.VA
end
section
namespace Go.Proofs.Ytmngjlgeojbghaa.VA
section
variable {F : Fx} {I : Imm} {own : Nat → Option Loc} {σ : ASt} {a : Act} {w w' : World} {C : Cfg} {K : ASt → Prop} {Q : Exit → Act → World → Prop}

theorem fold_put (off : Nat) : ∀ (vs : List Value) (k : Nat) (cells : Array Value), off + k + vs.length ≤ cells.size →
    ((vs.zipIdx k).foldl (fun cs p => cs.setIfInBounds (off + p.2) p.1) cells).size = cells.size ∧
    ∀ q, ((vs.zipIdx k).foldl (fun cs p => cs.setIfInBounds (off + p.2) p.1) cells)[q]? = if off + k ≤ q ∧ q < off + k + vs.length then vs[q - (off + k)]? else cells[q]?
  | [], k, cells, _ => by
    refine ⟨rfl, fun q => ?_⟩
    rw [if_neg (by simp)]; rfl
  | v :: vs, k, cells, h => by
    rw [List.zipIdx_cons, List.foldl_cons]
    simp only [List.length_cons] at h
    obtain ⟨h1, h2⟩ := fold_put off vs (k + 1) (cells.setIfInBounds (off + k) v) (by rw [Array.size_setIfInBounds]; omega)
    refine ⟨by rw [h1, Array.size_setIfInBounds], fun q => ?_⟩
    rw [h2 q]
    simp only [List.length_cons]
    by_cases e : off + (k + 1) ≤ q ∧ q < off + (k + 1) + vs.length
    · rw [if_pos e, if_pos (by omega), show q - (off + k) = (q - (off + (k + 1))) + 1 by omega, List.getElem?_cons_succ]
    · rw [if_neg e, Array.getElem?_setIfInBounds]
      by_cases e2 : off + k = q
      · subst e2
        rw [if_pos rfl, if_pos (by omega), if_pos (by omega)]
        simp
      · rw [if_neg e2, if_neg (by omega)]

theorem fill_step {place : Nat → Option (Nat × Nat)} {i off size : Nat} (hp : place i = some (off, size)) (v : Value) (hs : v.cells.size = size) (cells : Array Value) (hle : off + size ≤ cells.size) (rest : List (Nat × Value)) :
    ∃ cells1, Instr.fill place cells ((i, v) :: rest) = Instr.fill place cells1 rest ∧ cells1.size = cells.size ∧ ∀ q, cells1[q]? = if off ≤ q ∧ q < off + size then v.cells[q - off]? else cells[q]? := by
  subst hs
  have hn : ¬ (v.cells.size ≠ v.cells.size ∨ off + v.cells.size > cells.size) := by omega
  refine ⟨v.cells.zipIdx.foldl (fun cs p => cs.setIfInBounds (off + p.2) p.1) cells, ?_, ?_⟩
  · rw [Instr.fill, hp]
    simp only [ne_eq, not_true_eq_false, decide_false, Bool.false_or]
    rw [if_neg (by simp; omega)]
  · obtain ⟨h1, h2⟩ := fold_put off v.cells.toList 0 cells (by simpa using hle)
    rw [← Array.foldl_toList]
    have e : v.cells.zipIdx.toList = v.cells.toList.zipIdx := by simp
    rw [e]
    refine ⟨h1, fun q => ?_⟩
    rw [h2 q]
    simp

theorem ar_put {M : Nat → Prop} {cs : List AV} {cells cells1 : Array Value} {y : AV} {v : Value} {off : Nat} (hx : AR M I (.agg cs) (.agg cells)) (hy : AR M I y v) (hle : off + y.flat.length ≤ cs.length)
    (hs : cells1.size = cells.size) (hc : ∀ q, cells1[q]? = if off ≤ q ∧ q < off + v.cells.size then v.cells[q - off]? else cells[q]?) : AR M I (.agg (putAt cs off y.flat)) (.agg cells1) := by
  cases hx with
  | agg _ _ hl h1 hh =>
    have hfl := hy.flen
    refine .agg _ _ (by rw [putAt_length cs _ off hle, hl, hs]) (fun j u hu => ?_) fun j c u hc' hu => ?_
    · rw [hc] at hu
      split at hu
      · exact hy.one _ u hu
      · exact h1 j u hu
    · rw [hc] at hu
      rw [putAt_get cs _ off j hle, hfl] at hc'
      split at hu
      · rename_i e
        rw [if_pos e] at hc'
        exact hy.fcell _ c u hc' hu
      · rename_i e
        rw [if_neg e] at hc'
        exact hh j c u hc' hu

theorem build_ok {T : TypeId} {place : Nat → Option (Nat × Nat)} (hpl : ∀ i off size PT, placeOf C T i = some (off, size, PT) → place i = some (off, size)) :
    ∀ (parts : List (Nat × Operand)) (cs : List AV) (σ : ASt) (I : Imm) (cells : Array Value), RI F I own σ a w → AR F.mo I (.agg cs) (.agg cells) →
      ∀ cs' τ, buildGo C T parts (some (cs, σ)) = some (cs', τ) → ∃ J cells', Imm.le I J ∧ RI F J own τ a w ∧ Instr.fill place cells (parts.map fun p => (p.1, a.eval p.2)) = some cells' ∧ AR F.mo J (.agg cs') (.agg cells')
  | [], cs, σ, I, cells, h, hx, cs', τ, he => by
    cases he
    exact ⟨I, cells, Imm.leRefl I, h, rfl, hx⟩
  | (i, x) :: r, cs, σ, I, cells, h, hx, cs', τ, he => by
    rw [buildGo] at he
    cases hp : placeOf C T i with
    | none => rw [hp] at he; cases r <;> cases he
    | some q =>
      obtain ⟨off, size, PT⟩ := q
      rw [hp, partAt] at he
      have hr := rd_ok h C PT x
      cases hi : σ.imm (σ.rd C PT x) with
      | none => rw [hi] at he; cases r <;> cases he
      | some q =>
        obtain ⟨y, τ1⟩ := q
        rw [hi, partIn] at he
        split at he
        · rename_i hcond
          simp only [Bool.and_eq_true, decide_eq_true_eq] at hcond
          obtain ⟨J, j1, j2, j3⟩ := imm_ok h hr hi
          have hxJ := hx.mono (fun _ h => h) j1
          have hsz : cs.length = cells.size := by cases hx with | agg _ _ hl _ _ => exact hl
          have hvs : (a.eval x).cells.size = size := by rw [← j3.flen]; exact hcond.1
          obtain ⟨cells1, f1, f2, f3⟩ := fill_step (hpl i off size PT hp) (a.eval x) hvs cells (by rw [← hsz]; exact hcond.2) (r.map fun p => (p.1, a.eval p.2))
          have hput := ar_put hxJ j3 (by rw [hcond.1]; exact hcond.2) f2 (by rw [hvs]; exact f3)
          obtain ⟨J2, cells', k1, k2, k3, k4⟩ := build_ok hpl r _ τ1 J cells1 j2 hput cs' τ he
          exact ⟨J2, cells', j1.trans k1, k2, by rw [List.map_cons, f1]; exact k3, k4⟩
        · cases r <;> cases he

theorem op_build (hC : F.C = C) (hok : CfgOk C) (h : RI F I own σ a w) {dst : Option Tmp} {T ty : TypeId} {parts : Array (Nat × Operand)} {pos : String} {after : Array Edge} {g : Option (Nat × Bool)}
    (hw : (opR C σ dst ty (.build T parts)).wp C K) : Oper.wp C.P ⟨dst, .build T parts, ty, pos, after, g⟩ a w (Post F K) Q := by
  simp only [opR] at hw
  have hchk := chk_ok hw
  clear hw
  obtain ⟨hag, hw⟩ := hchk
  have hkn : (C.ti T).kind.known = true := by cases hk : (C.ti T).kind <;> rw [hk] at hag <;> first | rfl | cases hag
  obtain ⟨it, z, e1, e2, e3, e4, e5⟩ := zero_ar0 (hok.fit T hkn) hag F.mo I
  obtain ⟨zc, rfl⟩ := ar_agg e5
  have hfit := (hok.fit T hkn).kind
  cases hb : buildGo C T parts.toList (some ((C.ti T).zero.map AV.frz0, σ)) with
  | none => rw [hb] at hw; exact hw.elim
  | some q =>
    obtain ⟨cs', τ⟩ := q
    rw [hb] at hw
    have key : ∀ {place : Nat → Option (Nat × Nat)}, (∀ i off size PT, placeOf C T i = some (off, size, PT) → place i = some (off, size)) →
        (∀ cells, Instr.fill place zc (parts.toList.map fun p => (p.1, a.eval p.2)) = some cells → C.P.built T (parts.map fun p => (p.1, a.eval p.2)).toList = some cells) →
        Oper.wp C.P ⟨dst, .build T parts, ty, pos, after, g⟩ a w (Post F K) Q := by
      intro place hpl hbt
      obtain ⟨J, cells', j1, j2, j3, j4⟩ := build_ok hpl parts.toList _ σ I zc h e5 cs' τ hb
      refine by_value (w' := w) (v := .agg cells') ?_ (wr_rv hC j2 hw j4)
      have hr := run_build (P := C.P) w T (parts.map fun p => (p.1, a.eval p.2)) cells' (hbt cells' j3)
      simp only [execOp]
      simp [hr]
    cases hk : (C.ti T).kind <;> rw [hk] at hag <;> try cases hag
    · rename_i n e esz
      rw [hk] at hfit
      obtain ⟨hu, ie, hie, hsz, _⟩ := hfit
      refine key (place := fun i => some (i * ie.size, ie.size)) (fun i off size PT hp => ?_) fun cells hf => ?_
      · simp only [placeOf, hk] at hp
        split at hp
        · cases hp; rw [hsz]
        · cases hp
      · unfold Program.built
        rw [e1, hu]
        simp only [e3, hie]
        rw [Array.toList_map]; exact hf
    · rename_i fs
      rw [hk] at hfit
      obtain ⟨A, hu, hlen, hA⟩ := hfit
      have hpl : A.toList.mapM (fun f => (C.P.info? f.type).map fun i => (f.offset, i.size)) = some (fs.map fun p => (p.1, p.2.1)) := by
        have gen : ∀ (ars : List Field) (fs : List (Nat × Nat × TypeId)), ars.length = fs.length → (∀ (j off sz : Nat) ft, fs[j]? = some (off, sz, ft) → ∃ f i, ars[j]? = some f ∧ f.offset = off ∧ f.type = ft ∧ C.P.info? ft = some i ∧ i.size = sz) →
            ars.mapM (fun f => (C.P.info? f.type).map fun i => (f.offset, i.size)) = some (fs.map fun p => (p.1, p.2.1)) := by
          intro ars
          induction ars with
          | nil =>
            intro fs hl _
            obtain rfl : fs = [] := List.eq_nil_of_length_eq_zero hl.symm
            rfl
          | cons f ars ih =>
            intro fs hl hj
            cases fs with
            | nil => simp at hl
            | cons p fs =>
              obtain ⟨off, sz, ft⟩ := p
              obtain ⟨f', i, q1, q2, q3, q4, q5⟩ := hj 0 off sz ft rfl
              cases q1
              have := ih fs (by simpa using hl) fun j off sz ft hj' => hj (j + 1) off sz ft hj'
              simp only [List.mapM_cons, this, List.map_cons]
              subst q2 q3 q5
              simp [q4]
        refine gen A.toList fs (by simpa using hlen) fun j off sz ft hj => ?_
        obtain ⟨f, i, q1, q2, q3, q4, q5, _⟩ := hA j off sz ft hj
        exact ⟨f, i, by rw [Array.getElem?_toList]; exact q1, q2, q3, q4, q5⟩
      refine key (place := ((fs.map fun p => (p.1, p.2.1)).toArray[·]?)) (fun i off size PT hp => ?_) fun cells hf => ?_
      · simp only [placeOf, hk] at hp
        simp [hp]
      · unfold Program.built
        rw [e1, hu]
        simp only [e3, hpl]
        rw [Array.toList_map]; exact hf

theorem elems_ok {e : TypeId} {size n : Nat} {M : Nat → Prop} (hM : M = F.mo) :
    ∀ (parts : List (Nat × Operand)) (es : List AV) (σ : ASt) (I : Imm) (cells : Array Value), RI F I own σ a w → es.length = n → cells.size = n * size → Lies M I size es (fun o => cells[o]?) →
      ∀ es' τ, elemsGo C e size parts (some (es, σ)) = some (es', τ) → ∃ J cells', Imm.le I J ∧ RI F J own τ a w ∧ es'.length = n ∧ cells'.size = n * size ∧
        Instr.fill (fun i => some (i * size, size)) cells (parts.map fun p => (p.1, a.eval p.2)) = some cells' ∧ Lies M J size es' (fun o => cells'[o]?)
  | [], es, σ, I, cells, h, hn, hc, hx, es', τ, he => by
    cases he
    exact ⟨I, cells, Imm.leRefl I, h, hn, hc, rfl, hx⟩
  | (i, x) :: r, es, σ, I, cells, h, hn, hc, hx, es', τ, he => by
    subst hM
    rw [elemsGo] at he
    have hr := rd_ok h C e x
    cases hi : σ.imm (σ.rd C e x) with
    | none => rw [hi] at he; cases r <;> cases he
    | some q =>
      obtain ⟨y, τ1⟩ := q
      rw [hi, elemIn] at he
      split at he
      · rename_i hcond
        simp only [Bool.and_eq_true, decide_eq_true_eq] at hcond
        obtain ⟨J, j1, j2, j3⟩ := imm_ok h hr hi
        have hvs : (a.eval x).cells.size = size := by rw [← j3.flen]; exact hcond.1
        have hile : i * size + size ≤ n * size := by
          have : (i + 1) * size ≤ n * size := Nat.mul_le_mul_right _ (by omega)
          rw [Nat.add_mul] at this; omega
        obtain ⟨cells1, f1, f2, f3⟩ := fill_step (place := fun i => some (i * size, size)) (i := i) rfl (a.eval x) hvs cells (by rw [hc]; exact hile) (r.map fun p => (p.1, a.eval p.2))
        have hl : Lies F.mo J size (es.set i y) fun o => cells1[o]? := by
          intro k q hk
          rw [List.getElem?_set] at hk
          by_cases e1 : i = k
          · subst e1
            rw [if_pos rfl, if_pos hcond.2] at hk
            cases hk
            refine ⟨a.eval x, j3, hvs, fun j c hj => ?_⟩
            have hjs : j < size := by rw [← hvs]; exact (Array.getElem?_eq_some_iff.1 hj).1
            show cells1[i * size + j]? = some c
            rw [f3, if_pos (by omega), show i * size + j - i * size = j by omega]
            exact hj
          · rw [if_neg e1] at hk
            obtain ⟨v, v1, v2, v3⟩ := hx k q hk
            refine ⟨v, v1.mono (fun _ h => h) j1, v2, fun j c hj => ?_⟩
            have hjs : j < size := by rw [← v2]; exact (Array.getElem?_eq_some_iff.1 hj).1
            show cells1[k * size + j]? = some c
            rw [f3, if_neg]
            · exact v3 j c hj
            · rcases Nat.lt_or_ge i k with h | h
              · have : (i + 1) * size ≤ k * size := Nat.mul_le_mul_right _ h
                rw [Nat.add_mul] at this; omega
              · have : (k + 1) * size ≤ i * size := Nat.mul_le_mul_right _ (by omega)
                rw [Nat.add_mul] at this; omega
        obtain ⟨J2, cells', k1, k2, k3, k4, k5, k6⟩ := elems_ok (n := n) (M := F.mo) rfl r _ τ1 J cells1 j2 (by rw [List.length_set]; exact hn) (by rw [f2]; exact hc) hl es' τ he
        exact ⟨J2, cells', j1.trans k1, k2, k3, k4, by rw [List.map_cons, f1]; exact k5, k6⟩
      · cases r <;> cases he

theorem op_buildSlice (hC : F.C = C) (hok : CfgOk C) (h : RI F I own σ a w) {dst : Option Tmp} {T ty : TypeId} {n : Nat} {parts : Array (Nat × Operand)} {pos : String} {after : Array Edge} {g : Option (Nat × Bool)}
    (hw : (opR C σ dst ty (.buildSlice T n parts)).wp C K) : Oper.wp C.P ⟨dst, .buildSlice T n parts, ty, pos, after, g⟩ a w (Post F K) Q := by
  simp only [opR] at hw
  generalize hq : (C.ti T).kind = kd at hw
  cases kd <;> simp only [bsR] at hw <;> try exact hw.elim
  rename_i e esz eb
  have hchk := chk_ok hw
  clear hw
  obtain ⟨hb, hw⟩ := hchk
  simp only [Bool.and_eq_true, decide_eq_true_eq] at hb
  obtain ⟨hkn, hb1⟩ := hb
  have hfit := (hok.fit T (by rw [hq]; rfl)).kind
  rw [hq] at hfit
  obtain ⟨hu, ie, z, hie, hsz, hby, hb0, hz, hzs, hez⟩ := hfit
  obtain ⟨i2, z2, e1, e2, e3, e4, e5⟩ := zero_ar (hok.fit e hkn) F.mo I
  rw [hie] at e1
  cases e1
  rw [hz] at e3
  cases e3
  have hl := madeCells_lies (n := n) e5 hzs
  cases hbg : elemsGo C e esz parts.toList (some (List.replicate n (C.ti e).zeroVal, σ)) with
  | none => rw [hbg] at hw; exact hw.elim
  | some q =>
    obtain ⟨es', τ⟩ := q
    rw [hbg] at hw
    obtain ⟨J, cells', j1, j2, j3, j4, j5, j6⟩ := elems_ok (M := F.mo) rfl parts.toList _ σ I _ h (by simp) (size_madeCells z.cells (n * esz)) hl es' τ hbg
    have hn1 : n ≤ 16777216 := by
      have : n * 1 ≤ n * esz := Nat.mul_le_mul_left _ hez
      omega
    obtain ⟨h2, hh⟩ := j2.row_new (T := e) (fz := (0, 0)) (sz := esz) (cap := n) (es := es') (cur := cells') (by omega) (by simp only [maxLen]; omega) j4 (fun o _ => by simp) (fun _ o => by simp) j6
    rw [j3] at hh
    refine by_value (v := .slice (some ⟨w.heap.size, 0, none⟩) n n) (w' := _) ?_ (wr_own hC h2 hw hh)
    have hnl : ¬ (16777216 < n * esz) := by omega
    simp only [madeCells] at j5
    by_cases hne : n * esz = 0
    · have hnl : ¬ (16777216 < 0) := by omega
      rw [hne] at j5
      have hr : (Array.range 0).map (fun x => z.cells[x % z.cells.size]!) = #[] := by simp
      rw [hr] at j5
      simp [execOp, Instr.buildSlice, run_underlying hu, sizeOf, typeInfo, zeroValue, hie, hsz, hz, hne, hnl, newRow]
      rw [show Array.map (fun _ => (default : Value)) (Array.range 0) = #[] by simp, j5]
      simp
    · simp [execOp, Instr.buildSlice, run_underlying hu, sizeOf, typeInfo, zeroValue, hie, hsz, hz, hne, hnl, newRow]
      rw [j5]
      simp

end
end Go.Proofs.Ytmngjlgeojbghaa.VA
end
section
namespace Go.Proofs.Ytmngjlgeojbghaa.VA
section
variable {F : Fx} {I J : Imm} {own : Nat → Option Loc} {σ σ' : ASt} {a : Act} {w w' : World} {C : Cfg} {K : ASt → Prop}

theorem AR.wide {M : Nat → Prop} {x : AV} {v : Value} (h : AR M I x v) : Wide x → AR (fun b => M b ∧ ∃ o u, I b o = some u) I x v := by
  induction h with
  | bool b => exact fun _ => .bool b
  | int k n => exact fun _ => .int k n
  | str s => exact fun _ => .str s
  | fn f => intro hw; cases hw
  | nilf => intro hw; cases hw
  | agg cs vs hl h1 _ ih =>
    intro hw
    cases hw with
    | agg _ hc => exact .agg cs vs hl h1 fun j c u hj hu => ih j c u hj hu (hc c (List.mem_of_getElem? hj))
  | slnil fr sz base cap => exact fun _ => .slnil fr sz base cap
  | sl fr sz es b o n cap hn hc vs _ hz hI hM ih =>
    intro hw
    cases hw with
    | sl _ _ _ h0 hcs =>
      cases es with
      | nil => subst hn; exact .slnil fr sz _ cap
      | cons e es =>
        have hlt : 0 < (vs 0).cells.size := by rw [hz 0 (by simp)]; exact h0
        exact .sl fr sz _ b o n cap hn hc vs (fun i y hy => ih i y hy (hcs y (List.mem_of_getElem? hy))) hz hI fun hf => ⟨hM hf, _, _, hI 0 0 _ (by simp) (Array.getElem?_eq_getElem hlt)⟩
  | ext p J v hJ h1 hp => intro hw; cases hw
  | hd b x p J v hx hi hJ h1 hp ih => intro hw; cases hw

theorem sty_ar {s : Stash} {y x : AV} (h : Sty s y x) {M : Nat → Prop} : ∀ {v : Value}, AR M I y v → AR s.L s.K x v := by
  induction h with
  | bool b => intro v h; cases h; exact .bool b
  | int k i => intro v h; cases h; exact .int k i
  | str t => intro v h; cases h; exact .str t
  | st x =>
    intro v h
    cases h with
    | ext _ K _ _ _ hp => exact hp
  | agg xs ys hl _ ih =>
    intro v h
    cases h with
    | agg _ vs hl' h1 h =>
      refine .agg ys vs (hl.symm.trans hl') h1 fun j y u hy hu => ?_
      have hj : j < xs.length := by
        have := (List.getElem?_eq_some_iff.1 hy).1; omega
      exact ih j xs[j] y (List.getElem?_eq_getElem hj) hy (h j _ u (List.getElem?_eq_getElem hj) hu)
theorem by_ar {s : Stash} {y z : AV} (h : By s y z) (hI : Imm.le I J) (hK : Imm.le s.K J) {M : Nat → Prop} : ∀ {v : Value}, AR M I y v → AR (fun _ => True) J z v := by
  induction h with
  | dull h hi => intro v hv; exact (hv.mono (fun _ _ => trivial) hI).dull h
  | st h =>
    intro v hv
    cases hv with
    | ext _ K _ _ _ hp =>
      have hp : AR s.L s.K _ v := hp
      exact (hp.mono (fun _ _ => trivial) hK).dull h
  | agg ys zs hl _ ih =>
    intro v hv
    cases hv with
    | agg _ vs hl' h1 h =>
      refine .agg zs vs (hl.symm.trans hl') h1 fun j y u hy hu => ?_
      have hj : j < ys.length := by
        have := (List.getElem?_eq_some_iff.1 hy).1; omega
      exact ih j ys[j] y (List.getElem?_eq_getElem hj) hy (h j _ u (List.getElem?_eq_getElem hj) hu)
theorem By.imm {s : Stash} {y z : AV} (h : By s y z) : y.isImm = true := by
  cases h with
  | dull _ hi => exact hi
  | st _ => rfl
  | agg _ _ _ _ => rfl
theorem Sty.imm {s : Stash} {y x : AV} (h : Sty s y x) : y.isImm = true := by cases h <;> rfl

/-- All that is known, and what was put by. -/
noncomputable def Stash.over (s : Stash) (I : Imm) : Imm := fun b o => @ite _ (s.B b) (Classical.propDecidable _) (s.K b o) (I b o)
theorem over_ok {n : Nat} {s : Stash} (h : StOk n I own w s) (hI : Imm.ok I w) : Imm.ok (s.over I) w ∧ Imm.le I (s.over I) ∧ Imm.le s.K (s.over I) := by
  refine ⟨fun b o u hu => ?_, fun b o u hu => ?_, fun b o u hu => ?_⟩
  · unfold Stash.over at hu
    split at hu
    · rename_i e; exact (h.cells b o u (h.sub b e) hu).1
    · exact hI b o u hu
  · unfold Stash.over
    rw [if_neg fun e => by rw [h.gap b o e] at hu; cases hu]
    exact hu
  · unfold Stash.over
    by_cases e : s.L b
    · rw [if_pos (h.top b o u e hu)]; exact hu
    · rw [if_neg fun e2 => e (h.sub b e2)]; exact h.low b o u e hu

/-- What F must be for a call that writes over its argument. -/
def SpF (F : Fx) : Prop := ∀ b, ¬ F.lk b
theorem Fx.open.special (h : F.open) : SpF F := h.2

/-- The rows that were put by are written over: all else stands. -/
theorem RI.spoiled (h : RI F I own σ a w) (hF : SpF F) {s : Stash} {l1 l2 : List Stash} (hs : σ.st = l1 ++ s :: l2) {B : Nat → Prop} (hB : ∀ b, B b → s.B b) (hw : Fr w w' B) : RI F I own (σ.unstow (l1 ++ l2)) a w' := by
  have hsk := h.st.ok s (by rw [hs]; simp)
  have hBo : ∀ b, B b → own b = some (.box F.C.n) := fun b hb => hsk.ours b (hB b hb)
  have hBI : ∀ b o u, I b o = some u → ¬ B b := fun b o u hu hb => by rw [hsk.gap b o (hB b hb)] at hu; cases hu
  have hlt : ∀ {b o u}, w.cell? ⟨b, o, none⟩ = some u → b < w.heap.size := fun h => World.block_lt_of_cell? w _ h
  have hcell : ∀ b o, b < w.heap.size → ¬ B b → w'.cell? ⟨b, o, none⟩ = w.cell? ⟨b, o, none⟩ := fun b o hb hn => World.cell?_of_block (hw.block b hb hn)
  have hfrz : ∀ b o, b < w.heap.size → ¬ B b → w'.frozen? ⟨b, o, none⟩ = w.frozen? ⟨b, o, none⟩ := fun b o hb hn => World.frozen?_of_block (hw.block b hb hn)
  have hbox : ∀ k cs b, look σ.vars k = some cs → a.tmps[k]? = some (.pointer (some ⟨b, 0, none⟩)) → b < w.heap.size ∧ ¬ B b := by
    intro k cs b hk hb
    obtain ⟨b', e1, e2, e3, _⟩ := h.boxes k cs hk
    have e1' := e1
    rw [hb] at e1
    cases e1
    exact ⟨(h.mine _ _ e2).2, fun e => box_real h e2 e1' (hBo _ e)⟩
  have hconc : ∀ l' y, σ.at l' = some y → conc a w' l' = conc a w l' := by
    intro l' y hy
    cases l' with
    | cell k j =>
      cases hk : look σ.vars k with
      | none => simp only [ASt.at, hk, cellAt] at hy; cases hy
      | some cs =>
        obtain ⟨b, e1, e2, _, _⟩ := h.boxes k cs hk
        obtain ⟨q1, q2⟩ := hbox k cs b hk e1
        simp only [conc, e1, cellOf]
        exact hcell b j q1 q2
    | _ => rfl
  exact {
    imm := fun b o u hu => by
      have h3 := h.imm b o u hu
      rw [hcell b o (hlt h3) (hBI b o u hu)]; exact h3
    base := h.base
    inew := h.inew
    mko := h.mko
    fr := fr_trans h.fr hw.os hw.tape hw.output hw.size (fun k hk hp => hw.block k (Nat.lt_of_lt_of_le hk h.fr.size) fun e => by
      rcases (h.mine k _ (hBo k e)).1 with e2 | e2
      · omega
      · exact hp e2) hw.new
    mine := fun b l hb => ⟨(h.mine b l hb).1, Nat.lt_of_lt_of_le (h.mine b l hb).2 hw.size⟩
    defs := h.defs
    size := h.size
    slots := by
      intro l x hx
      have hx : σ.at l = some x := hx
      obtain ⟨u, hc, hr⟩ := h.slots l x hx
      refine ⟨u, by rw [hconc l x hx]; exact hc, hr.keep (Imm.leRefl I) (fun g sh sz es cap e hg hrow => ⟨hg, ?_⟩) (fun l2 _ sh2 sz2 es2 he => ⟨⟨sh2, es2, he⟩, hconc l2 _ he⟩) (fun k off _ cs hk => ⟨⟨cs, hk⟩, rfl⟩)⟩
      have hn : ¬ B g := fun e2 => by
        have h2 := hBo g e2
        rw [hg] at h2
        cases h2
        cases hx
      have hlt := (h.mine g l hg).2
      exact hrow.keep (fun _ h => h) (Imm.leRefl I) (fun _ h => h) (fun o => hcell g o hlt hn) (fun o => hfrz g o hlt hn)
    boxes := by
      intro k cs hk
      obtain ⟨b, f1, f2, f3, f4⟩ := h.boxes k cs hk
      obtain ⟨q1, q2⟩ := hbox k cs b hk f1
      refine ⟨b, f1, f2, f3, fun j hj => ?_⟩
      rw [hcell b j q1 q2, hfrz b j q1 q2]
      exact f4 j hj
    quiet := h.quiet
    lk := h.lk.keep (fun _ _ _ h => h) (fun b k hb _ => (hF b hb).elim) fun k cs hk => ⟨⟨cs, hk⟩, rfl⟩
    st := by
      have hp := h.st.apart
      rw [hs] at hp
      obtain ⟨p1, p2, p3⟩ := List.pairwise_append.1 hp
      obtain ⟨p4, p5⟩ := List.pairwise_cons.1 p2
      refine ⟨fun t ht => ?_, List.pairwise_append.2 ⟨p1, p5, fun x hx y hy => p3 x hx y (.tail _ hy)⟩⟩
      have ht : t ∈ l1 ∨ t ∈ l2 := List.mem_append.1 ht
      have hk := h.st.ok t (by rw [hs]; rcases ht with e | e <;> simp [e])
      refine ⟨hk.ours, hk.gap, fun b o u h1 h2 => ?_, hk.top, hk.low, hk.sub⟩
      have h3 := hk.top b o u h1 h2
      have hn : ¬ B b := fun e => by
        rcases ht with e2 | e2
        · exact p3 t e2 s (.head _) b h3 (hB b e)
        · exact p4 t e2 b (hB b e) h3
      have h4 := hk.cells b o u h1 h2
      rw [hcell b o (hlt h4.1) hn, hfrz b o (hlt h4.1) hn]
      exact h4 }

/-- A call's results are put by. -/
theorem RI.stowed {w0 : World} (h0 : Imm.ok I w0) (hown : ∀ b l, own b = some l → b < w0.heap.size) (h : RI F I own σ a w) (hF0 : F.w0.heap.size ≤ w0.heap.size) (ss : List Stash) (hB : ∀ s, s ∈ ss → ∀ b, s.B b → w0.heap.size ≤ b ∧ b < w.heap.size)
    (hcells : ∀ s, s ∈ ss → ∀ b o u, s.L b → s.K b o = some u → w.cell? ⟨b, o, none⟩ = some u ∧ w.frozen? ⟨b, o, none⟩ = false) (htop : ∀ s, s ∈ ss → ∀ b o u, s.L b → s.K b o = some u → s.B b) (hlow : ∀ s, s ∈ ss → ∀ b o u, ¬ s.L b → s.K b o = some u → I b o = some u) (hsub : ∀ s, s ∈ ss → ∀ b, s.B b → s.L b)
    (hap : ss.Pairwise fun s t => ∀ b, s.B b → ¬ t.B b) :
    RI F I (fun b => if w0.heap.size ≤ b ∧ b < w.heap.size then some (.box F.C.n) else own b) { σ with st := ss ++ σ.st } a w := by
  have hkeep : ∀ g l, own g = some l → (if w0.heap.size ≤ g ∧ g < w.heap.size then some (.box F.C.n) else own g) = some l := fun g l hg => by
    have := hown g l hg
    rw [if_neg fun e => by omega]; exact hg
  exact {
    imm := h.imm
    base := h.base
    inew := h.inew
    mko := h.mko
    fr := h.fr
    mine := fun b l hb => by
      have hb : (if w0.heap.size ≤ b ∧ b < w.heap.size then some (Loc.box F.C.n) else own b) = some l := hb
      by_cases e : w0.heap.size ≤ b ∧ b < w.heap.size
      · exact ⟨.inl (Nat.le_trans hF0 e.1), e.2⟩
      · rw [if_neg e] at hb
        exact h.mine b l hb
    defs := h.defs
    size := h.size
    slots := by
      intro l x hx
      have hx : σ.at l = some x := hx
      obtain ⟨u, hc, hr⟩ := h.slots l x hx
      exact ⟨u, hc, hr.keep (Imm.leRefl I) (fun g sh sz es cap e hg hrow => ⟨hkeep g l hg, hrow⟩) (fun l2 _ sh2 sz2 es2 he => ⟨⟨sh2, es2, he⟩, rfl⟩) (fun k off _ cs hk => ⟨⟨cs, hk⟩, rfl⟩)⟩
    boxes := by
      intro k cs hk
      obtain ⟨b, f1, f2, f3, f4⟩ := h.boxes k cs hk
      exact ⟨b, f1, hkeep b _ f2, f3, f4⟩
    quiet := h.quiet
    lk := h.lk.keep (fun b k _ hb => hkeep b _ hb) (fun _ _ _ _ => rfl) fun k cs hk => ⟨⟨cs, hk⟩, rfl⟩
    st := by
      have hst := h.st.step (own' := fun b => if w0.heap.size ≤ b ∧ b < w.heap.size then some (.box F.C.n) else own b) (fun _ _ _ h => h) (fun _ _ _ h => h) (fun b hb => hkeep b _ hb) (fun _ _ => rfl)
      have hgap : ∀ b o, w0.heap.size ≤ b → I b o = none := fun b o hb => by
        cases e : I b o with
        | none => rfl
        | some u =>
          have : b < w0.heap.size := World.block_lt_of_cell? w0 _ (h0 b o u e)
          omega
      refine ⟨fun t ht => ?_, List.pairwise_append.2 ⟨hap, hst.apart, fun s hs t ht b h1 h2 => ?_⟩⟩
      · rcases List.mem_append.1 ht with ht | ht
        · exact ⟨fun b h1 => if_pos (hB t ht b h1), fun b o h1 => hgap b o (hB t ht b h1).1, hcells t ht, htop t ht, hlow t ht, hsub t ht⟩
        · exact hst.ok t ht
      · have h4 := hown b _ ((h.st.ok t ht).ours b h2)
        have := (hB s hs b h1).1
        omega }
/-- A marked value stands in its own blocks alone. -/
theorem AR.only {M : Nat → Prop} {x : AV} {v : Value} (h : AR M I x v) (J : Imm) (hJ : ∀ b o u, M b → I b o = some u → J b o = some u) : Marked x → AR M J x v := by
  induction h with
  | bool b => exact fun _ => .bool b
  | int k n => exact fun _ => .int k n
  | str s => exact fun _ => .str s
  | fn f => intro hw; cases hw
  | nilf => intro hw; cases hw
  | agg cs vs hl h1 _ ih =>
    intro hw
    cases hw with
    | agg _ hc => exact .agg cs vs hl h1 fun j c u hj hu => ih j c u hj hu (hc c (List.mem_of_getElem? hj))
  | slnil fr sz base cap => exact fun _ => .slnil fr sz base cap
  | sl fr sz es b o n cap hn hc vs _ hz hI hM ih =>
    intro hw
    cases hw with
    | sl _ _ hcs => exact .sl true sz es b o n cap hn hc vs (fun i y hy => ih i y hy (hcs y (List.mem_of_getElem? hy))) hz (fun i j c hi hj => hJ _ _ _ (hM rfl) (hI i j c hi hj)) hM
  | ext p J v hJ h1 hp => intro hw; cases hw
  | hd b x p J v hx hi hJ h1 hp ih => intro hw; cases hw
end
end Go.Proofs.Ytmngjlgeojbghaa.VA
end
section
namespace Go.Proofs.Ytmngjlgeojbghaa.VA
section
variable {F : Fx} {I : Imm} {own : Nat → Option Loc} {σ : ASt} {a : Act} {w w' : World} {C : Cfg} {K : ASt → Prop} {Q : Exit → Act → World → Prop}

/-- A call turns what it was given, and makes new blocks. -/
theorem RI.called (h : RI F I own σ a w) {J : Imm} {gs : List Nat} (hgs : ∀ g, g ∈ gs → Free σ own g ∧ F.mine g) (hF : Fr w w' (· ∈ gs)) (hle : Imm.le I J) (hok : Imm.ok J w')
    (hnew : ∀ b o u, J b o = some u → I b o = some u ∨ w.heap.size ≤ b ∨ b ∈ gs) : RI F J own σ a w' := by
  have hbne : ∀ k cs, look σ.vars k = some cs → ∀ b, own b = some (.box k) → b ∉ gs := by
    intro k cs hk b hb e
    exact ((hgs b e).1 _ hb).2 k rfl
  have hcell : ∀ b, b < w.heap.size → b ∉ gs → ∀ o, w'.cell? ⟨b, o, none⟩ = w.cell? ⟨b, o, none⟩ := fun b hb hn o => World.cell?_of_block (hF.block b hb hn)
  have hfrz : ∀ b, b < w.heap.size → b ∉ gs → ∀ o, w'.frozen? ⟨b, o, none⟩ = w.frozen? ⟨b, o, none⟩ := fun b hb hn o => World.frozen?_of_block (hF.block b hb hn)
  have hnone : ∀ b, b < w.heap.size → b ∉ gs → ∀ o, I b o = none → J b o = none := by
    intro b hb hn o ho
    cases e : J b o with
    | none => rfl
    | some u =>
      rcases hnew b o u e with h1 | h1 | h1
      · rw [ho] at h1; cases h1
      · omega
      · exact (hn h1).elim
  have hconc : ∀ l' y, σ.at l' = some y → conc a w' l' = conc a w l' := by
    intro l' y hy
    cases l' with
    | cell k j =>
      cases hk : look σ.vars k with
      | none => simp only [ASt.at, hk, cellAt] at hy; cases hy
      | some cs =>
        obtain ⟨b, e1, e2, _, _⟩ := h.boxes k cs hk
        simp only [conc, e1, cellOf]
        exact hcell b (h.mine b _ e2).2 (hbne k cs hk b e2) j
    | _ => rfl
  exact {
    st := h.st.step hle (fun b hb o ho => hnone b (h.mine b _ hb).2 (fun e => ((hgs b e).1 _ hb).2 _ rfl) o ho) (fun _ h => h) (fun b hb => hF.block b (h.mine b _ hb).2 fun e => ((hgs b e).1 _ hb).2 _ rfl)
    imm := hok
    base := h.base.trans hle
    inew := fun b o v hb => by
      rcases hnew b o v hb with h1 | h1 | h1
      · exact h.inew b o v h1
      · exact .inr (.inl (Nat.le_trans h.fr.size h1))
      · exact .inr (hgs b h1).2
    mko := h.mko
    fr := fr_trans h.fr hF.os hF.tape hF.output hF.size (fun k hk hp => hF.block k (Nat.lt_of_lt_of_le hk h.fr.size) fun e => by
      rcases (hgs k e).2 with e2 | e2
      · omega
      · exact hp e2) hF.new
    mine := fun b l hb => ⟨(h.mine b l hb).1, Nat.lt_of_lt_of_le (h.mine b l hb).2 hF.size⟩
    defs := h.defs
    size := h.size
    slots := by
      intro l y hy
      obtain ⟨v, hv', hr⟩ := h.slots l y hy
      refine ⟨v, by rw [hconc l y hy]; exact hv', hr.keep hle (fun g' sh1 sz1 es1 cap1 e hg' hrow' => ⟨hg', ?_⟩) (fun l2 _ sh2 sz2 es2 he => ⟨⟨sh2, es2, he⟩, hconc l2 _ he⟩) (fun k off _ cs hk => ⟨⟨cs, hk⟩, rfl⟩)⟩
      have hne : g' ∉ gs := by
        intro e2
        subst e
        exact ((hgs g' e2).1 l hg').1 _ _ _ hy
      have hlt := (h.mine g' l hg').2
      exact hrow'.keep (fun _ h => h) hle (hnone g' hlt hne) (hcell g' hlt hne) (hfrz g' hlt hne)
    boxes := by
      intro k cs hk
      obtain ⟨b, f1, f2, f3, f4⟩ := h.boxes k cs hk
      have hne := hbne k cs hk b f2
      have hlt := (h.mine b _ f2).2
      refine ⟨b, f1, f2, fun o => hnone b hlt hne o (f3 o), fun j hj => ?_⟩
      rw [hcell b hlt hne, hfrz b hlt hne]
      exact f4 j hj
    quiet := h.quiet
    lk := h.lk.keep (fun _ _ _ h => h) (fun b k _ hb => hF.block b (h.mine b _ hb).2 fun e => ((hgs b e).1 _ hb).2 k rfl) fun k cs hk => ⟨⟨cs, hk⟩, rfl⟩ }

/-- Who owns the rows of a tuple. -/
def giveTup (own : Nat → Option Loc) (t : Nat → Loc) : Nat → List AV → List Value → Nat → Option Loc
  | j, .own _ _ _ :: ars, v :: vs => giveTo (giveTup own t (j + 1) ars vs) v (t j)
  | j, _ :: ars, _ :: vs => giveTup own t (j + 1) ars vs
  | _, _, _ => own

theorem giveTup_imm {own : Nat → Option Loc} {t : Nat → Loc} {j : Nat} {x : AV} {ars : List AV} {v : Value} {vs : List Value} (hx : x.isImm = true) : giveTup own t j (x :: ars) (v :: vs) = giveTup own t (j + 1) ars vs := by
  cases x <;> first | rfl | cases hx

theorem vrep_cases {M : Nat → Prop} {x : AV} {v : Value} {gs : List Nat} (h : VRep M I w x v gs) : (∃ sh sz, x = .own sh sz [] ∧ v = .slice none 0 0 ∧ gs = []) ∨
    (∃ sh sz es g cap, x = .own sh sz es ∧ v = .slice (some ⟨g, 0, none⟩) es.length cap ∧ gs = [g] ∧ g < w.heap.size ∧ Row M I w g sh sz es cap) ∨ (x.isImm = true ∧ AR M I x v ∧ gs = []) := by
  by_cases hx : ∃ sh sz es, x = .own sh sz es
  · obtain ⟨sh, sz, es, rfl⟩ := hx
    rcases h with ⟨rfl, rfl, rfl⟩ | ⟨g, cap, h1, h2, h3, h4⟩
    · exact .inl ⟨sh, sz, rfl, rfl, rfl⟩
    · exact .inr (.inl ⟨sh, sz, es, g, cap, rfl, h1, h2, h3, h4⟩)
  · have h' : AR M I x v ∧ gs = [] := by
      cases x <;> first | exact h | exact (hx ⟨_, _, _, rfl⟩).elim
    exact .inr (.inr ⟨h'.1.imm, h'⟩)

theorem giveTup_out {M : Nat → Prop} (t : Nat → Loc) : ∀ (ars : List AV) (vs : List Value) (gs : List Nat) (j : Nat), VReps M I w ars vs gs → ∀ b, b ∉ gs → giveTup own t j ars vs b = own b
  | [], [], gs, j, h, b, hb => rfl
  | x :: ars, v :: vs, gs, j, h, b, hb => by
    obtain ⟨g1, g2, rfl, h1, h2⟩ := h
    have ih := giveTup_out t ars vs g2 (j + 1) h2 b fun e => hb (List.mem_append_right _ e)
    rcases vrep_cases h1 with ⟨sh, sz, rfl, rfl, rfl⟩ | ⟨sh, sz, es, g, cap, rfl, rfl, rfl, _⟩ | ⟨hi, _, _⟩
    · exact ih
    · show giveTo (giveTup own t (j + 1) ars vs) _ _ b = _
      rw [giveTo_ne _ _ _ _ _ _ fun e => hb (by simp [e])]; exact ih
    · rw [giveTup_imm hi]; exact ih
  | [], _ :: _, gs, j, h, b, hb => h.elim
  | _ :: _, [], gs, j, h, b, hb => h.elim
theorem giveTup_at {M : Nat → Prop} (t : Nat → Loc) : ∀ (ars : List AV) (vs : List Value) (gs : List Nat) (j : Nat), VReps M I w ars vs gs → gs.Nodup → ∀ (i : Nat) x, ars[i]? = some x → ∃ v, vs[i]? = some v ∧
    ((∃ sh sz, x = .own sh sz [] ∧ v = .slice none 0 0) ∨ (∃ sh sz es g cap, x = .own sh sz es ∧ v = .slice (some ⟨g, 0, none⟩) es.length cap ∧ giveTup own t j ars vs g = some (t (j + i)) ∧ Row M I w g sh sz es cap ∧ g ∈ gs) ∨ (x.isImm = true ∧ AR M I x v))
  | [], [], gs, j, h, hn, i, x, hx => by simp at hx
  | y :: ars, u :: vs, gs, j, h, hn, i, x, hx => by
    obtain ⟨g1, g2, rfl, h1, h2⟩ := h
    have hn2 : g2.Nodup := (List.nodup_append.1 hn).2.1
    cases i with
    | zero =>
      cases hx
      refine ⟨u, rfl, ?_⟩
      rcases vrep_cases h1 with ⟨sh, sz, rfl, rfl, rfl⟩ | ⟨sh, sz, es, g, cap, rfl, rfl, rfl, _, hr⟩ | ⟨hi, ha, _⟩
      · exact .inl ⟨sh, sz, rfl, rfl⟩
      · exact .inr (.inl ⟨sh, sz, es, g, cap, rfl, rfl, giveTo_same _ g _ _ _, hr, by simp⟩)
      · exact .inr (.inr ⟨hi, ha⟩)
    | succ i =>
      obtain ⟨v, hv, hc⟩ := giveTup_at t ars vs g2 (j + 1) h2 hn2 i x hx
      refine ⟨v, hv, ?_⟩
      rcases hc with hc | ⟨sh, sz, es, g, cap, e1, e2, e3, e4, e5⟩ | hc
      · exact .inl hc
      · refine .inr (.inl ⟨sh, sz, es, g, cap, e1, e2, ?_, e4, List.mem_append_right _ e5⟩)
        rw [show j + (i + 1) = j + 1 + i by omega]
        rcases vrep_cases h1 with ⟨sh, sz, rfl, rfl, rfl⟩ | ⟨sh', sz', es', g', cap', rfl, rfl, rfl, _, hr⟩ | ⟨hi, ha, _⟩
        · exact e3
        · show giveTo (giveTup own t (j + 1) ars vs) _ _ g = _
          rw [giveTo_ne]
          · exact e3
          · intro e
            subst e
            simp only [List.singleton_append, List.nodup_cons] at hn
            exact hn.1 e5
        · rw [giveTup_imm hi]; exact e3
      · exact .inr (.inr hc)
  | [], _ :: _, gs, j, h, hn, i, x, hx => h.elim
  | _ :: _, [], gs, j, h, hn, i, x, hx => h.elim
theorem giveTup_some {M : Nat → Prop} (t : Nat → Loc) {ars : List AV} {vs : List Value} {gs : List Nat} {j : Nat} (h : VReps M I w ars vs gs) {b : Nat} {l : Loc} (hb : giveTup own t j ars vs b = some l) : own b = some l ∨ b ∈ gs := by
  by_cases e : b ∈ gs
  · exact .inr e
  · rw [giveTup_out t ars vs gs j h b e] at hb; exact .inl hb
theorem vreps_len {M : Nat → Prop} : ∀ (ars : List AV) (vs : List Value) (gs : List Nat), VReps M I w ars vs gs → ars.length = vs.length ∧ ∀ g, g ∈ gs → g < w.heap.size
  | [], [], gs, h => ⟨rfl, fun g hg => by rw [show gs = [] from h] at hg; cases hg⟩
  | x :: ars, v :: vs, gs, h => by
    obtain ⟨g1, g2, rfl, h1, h2⟩ := h
    obtain ⟨k1, k2⟩ := vreps_len ars vs g2 h2
    refine ⟨by simp [k1], fun g hg => ?_⟩
    rcases List.mem_append.1 hg with hg | hg
    · rcases vrep_cases h1 with ⟨sh, sz, rfl, rfl, rfl⟩ | ⟨sh', sz', es', g', cap', rfl, rfl, rfl, hlt, hr⟩ | ⟨hi, ha, rfl⟩
      · cases hg
      · simp only [List.mem_singleton] at hg; subst hg; exact hlt
      · cases hg
    · exact k2 g hg
  | [], _ :: _, gs, h => h.elim
  | _ :: _, [], gs, h => h.elim

/-- A temporary is given a tuple. -/
theorem RI.putTup (h0 : RI F I own σ a w) {t : Nat} (ht : F.C.may t = true) (hv : look σ.vars t = none) {ars : List AV} {vs : List Value} {gs : List Nat} (hrep : VReps F.mo I w ars vs gs) (hnd : gs.Nodup)
    (hfree0 : ∀ g, g ∈ gs → Free σ own g ∧ F.mine g) : RI F I (giveTup own (Loc.comp t) 0 ars vs) { σ with tmps := ins t (.tup ars) (VA.strike (AV.leansComp t) σ.tmps) } (a.put (some t) (.tuple vs.toArray)) w := by
  have h := h0.strike (AV.leansComp t)
  have hfree : ∀ g, g ∈ gs → Free { σ with tmps := VA.strike (AV.leansComp t) σ.tmps } own g ∧ F.mine g := by
    refine fun g hg => ⟨fun l hl => ⟨fun sh sz es he => ?_, ((hfree0 g hg).1 l hl).2⟩, (hfree0 g hg).2⟩
    obtain ⟨x0, e0, rfl | e1⟩ := at_strike _ σ l _ he
    · exact ((hfree0 g hg).1 l hl).1 _ _ _ e0
    · cases e1
  have hnl : ∀ l y, ASt.at { σ with tmps := VA.strike (AV.leansComp t) σ.tmps } l = some y → ∀ j, y.leans (.comp t j) = false := by
    intro l y hy j
    by_cases e : ∃ i, l = .tmp i
    · obtain ⟨i, rfl⟩ := e
      simp only [ASt.at, look_strike] at hy
      cases hl : look σ.tmps i with
      | none => rw [hl] at hy; cases hy
      | some z =>
        rw [hl] at hy
        simp only [Option.map_some, Option.some.injEq] at hy
        subst hy
        split
        · rfl
        · rename_i hz
          cases z <;> try rfl
          case ref l' =>
            cases l' <;> simp [AV.leans, AV.leansComp] at hz ⊢
            intro e _; exact (hz e).elim
          case elt x i' off =>
            cases x <;> try rfl
            rename_i l'
            cases l' <;> simp [AV.leans, AV.leansComp] at hz ⊢
            intro e _; exact (hz e).elim
    · exact (h.quiet l y hy fun i e' => e ⟨i, e'⟩).1 _
  show RI F I _ (ASt.put { σ with tmps := VA.strike (AV.leansComp t) σ.tmps } t (.tup ars)) _ w
  generalize hσ : ({ σ with tmps := VA.strike (AV.leansComp t) σ.tmps } : ASt) = σ1 at *
  have hv1 : look σ1.vars t = none := by rw [← hσ]; exact hv
  clear h0 hfree0 hσ hv
  have hsz : t < a.tmps.size := by rw [h.size]; exact may_lt ht
  have hk : ∀ k cs, look σ1.vars k = some cs → k ≠ t := fun k cs hk e => by rw [e, hv1] at hk; cases hk
  have hat : ∀ l y, (σ1.put t (.tup ars)).at l = some y → l ≠ .tmp t → (∀ j, l ≠ .comp t j) → σ1.at l = some y ∧ (∀ j, l ≠ .cell t j) := by
    intro l y hy h1 h2
    rw [at_put_ne σ1 t _ l h1 h2] at hy
    refine ⟨hy, fun j e => ?_⟩
    subst e
    simp only [ASt.at, hv1, cellAt] at hy; cases hy
  have hkeep : ∀ g l, own g = some l → ((∃ sh sz es, σ1.at l = some (.own sh sz es)) ∨ ∃ k cs, l = .box k ∧ look σ1.vars k = some cs) → giveTup own (Loc.comp t) 0 ars vs g = some l := by
    intro g l hg hl
    rw [giveTup_out (Loc.comp t) ars vs gs 0 hrep g fun e => ?_]
    · exact hg
    · obtain ⟨h1, h2⟩ := (hfree g e).1 l hg
      rcases hl with ⟨sh, sz, es, hl⟩ | ⟨k, cs, rfl, hl⟩
      · exact h1 sh sz es hl
      · exact h2 k rfl
  have hcomp : ∀ j x, ars[j]? = some x → ∃ v, vs[j]? = some v ∧ ∀ {σ' : ASt} {a' : Act}, SRep F I (giveTup own (Loc.comp t) 0 ars vs) σ' a' w (.comp t j) x v := by
    intro j x hx
    obtain ⟨v, hv, hc⟩ := giveTup_at (own := own) (Loc.comp t) ars vs gs 0 hrep hnd j x hx
    refine ⟨v, hv, ?_⟩
    rcases hc with ⟨sh, sz, rfl, rfl⟩ | ⟨sh, sz, es, g, cap, rfl, rfl, hg, hr, _⟩ | ⟨hi, ha⟩
    · exact .inl ⟨rfl, rfl⟩
    · exact .inr ⟨g, cap, rfl, by rw [hg, Nat.zero_add], hr⟩
    · exact (srep_imm hi).2 ha
  exact {
    st := h.st.step (fun _ _ _ h => h) (fun _ _ _ h => h) (fun b hb => by rw [giveTup_out (Loc.comp t) ars vs gs 0 hrep b fun e => ((hfree b e).1 _ hb).2 _ rfl]; exact hb) (fun _ _ => rfl)
    imm := h.imm
    base := h.base
    inew := h.inew
    fr := h.fr
    mko := h.mko
    mine := fun b l hb => by
      rcases giveTup_some (Loc.comp t) hrep hb with e | e
      · exact h.mine b l e
      · exact ⟨(hfree b e).2, (vreps_len ars vs gs hrep).2 b e⟩
    defs := defs_put h.defs ht
    size := by simp [Act.put, h.size]
    slots := by
      intro l y hy
      by_cases h1 : l = .tmp t
      · subst h1
        simp only [ASt.at, look_put, if_true, Option.some.injEq] at hy
        subst hy
        exact ⟨_, tmp_put_same a t _ hsz, vs.toArray, rfl, by simp [(vreps_len ars vs gs hrep).1]⟩
      · by_cases h2 : ∃ j, l = .comp t j
        · obtain ⟨j, rfl⟩ := h2
          simp only [ASt.at, look_put, if_true, AV.compAt] at hy
          obtain ⟨v, hv, hr⟩ := hcomp j y hy
          refine ⟨v, ?_, hr⟩
          simp only [conc, tmp_put_same a t _ hsz, compOf]
          simpa using hv
        · have h2' : ∀ j, l ≠ .comp t j := fun j e => h2 ⟨j, e⟩
          obtain ⟨hy', h3⟩ := hat l y hy h1 h2'
          obtain ⟨v', hc, hr⟩ := h.slots l y hy'
          refine ⟨v', by rw [conc_put_ne a w t _ l h1 h2' h3]; exact hc, hr.keep (Imm.leRefl I) (fun g sh' sz' es' cap e hg hrow => ⟨?_, hrow⟩) (fun l' hl' sh' sz' es' he => ?_) (fun k off _ cs hc => ?_)⟩
          · subst e
            exact hkeep g l hg (.inl ⟨_, _, _, hy'⟩)
          · have hne1 : l' ≠ .tmp t := by
              intro e; subst e
              simp only [ASt.at, look_put, if_true, Option.some.injEq] at he; cases he
            have hne2 : ∀ j, l' ≠ .comp t j := by
              intro j e; subst e
              rw [hnl l y hy' j] at hl'; cases hl'
            obtain ⟨he', h3'⟩ := hat l' _ he hne1 hne2
            exact ⟨⟨sh', es', he'⟩, conc_put_ne a w t _ l' hne1 hne2 h3'⟩
          · exact ⟨⟨cs, hc⟩, tmp_put_ne a t k _ (hk k cs hc)⟩
    boxes := by
      intro k cs hc
      obtain ⟨b, h1, h2, h3, h4⟩ := h.boxes k cs hc
      exact ⟨b, by rw [tmp_put_ne a t k _ (hk k cs hc)]; exact h1, hkeep b _ h2 (.inr ⟨k, cs, rfl, hc⟩), h3, h4⟩
    quiet := by
      intro l y hy hl
      by_cases h2 : ∃ j, l = .comp t j
      · obtain ⟨j, rfl⟩ := h2
        simp only [ASt.at, look_put, if_true, AV.compAt] at hy
        obtain ⟨v, hv, hc⟩ := giveTup_at (own := own) (Loc.comp t) ars vs gs 0 hrep hnd j y hy
        rcases hc with ⟨sh, sz, rfl, rfl⟩ | ⟨sh, sz, es, g, cap, rfl, rfl, hg, hr, _⟩ | ⟨hi, ha⟩
        · exact ⟨fun _ => rfl, fun _ => rfl⟩
        · exact ⟨fun _ => rfl, fun _ => rfl⟩
        · exact imm_quiet hi
      · exact h.quiet l y (hat l y hy (hl t) fun j e => h2 ⟨j, e⟩).1 hl
    lk := h.lk.keep (fun b k _ hb => by
      rw [giveTup_out (Loc.comp t) ars vs gs 0 hrep b fun e => ((hfree b e).1 _ hb).2 k rfl]
      exact hb) (fun _ _ _ _ => rfl) fun k cs hc => ⟨⟨cs, hc⟩, tmp_put_ne a t k _ (hk k cs hc)⟩ }

/-- A place given up bears no more than before. -/
theorem at_drop (σ : ASt) (l l' : Loc) (sh : Bool) (sz : Nat) (es : List AV) (h : (σ.drop l).at l' = some (.own sh sz es)) : σ.at l' = some (.own sh sz es) := by
  cases l with
  | tmp t =>
    by_cases h1 : l' = .tmp t
    · subst h1; simp only [ASt.drop, ASt.at, look_put, if_true, Option.some.injEq] at h; cases h
    · by_cases h2 : ∃ j, l' = .comp t j
      · obtain ⟨j, rfl⟩ := h2
        simp only [ASt.drop, ASt.at, look_put, if_true, AV.compAt] at h; cases h
      · rw [show σ.drop (.tmp t) = σ.put t .bot from rfl, at_put_ne σ t _ l' h1 fun j e => h2 ⟨j, e⟩] at h
        exact h
  | cell k j =>
    simp only [ASt.drop, ASt.setCell] at h
    cases hk : look σ.vars k with
    | none => rw [hk] at h; exact h
    | some cs =>
      rw [hk] at h
      simp only [ASt.setCellO] at h
      cases l' with
      | cell k' j' =>
        simp only [ASt.at, look_ins] at h ⊢
        by_cases e : k' = k
        · subst e
          simp only [if_true, cellAt, hk] at h ⊢
          rw [List.getElem?_set] at h
          split at h
          · split at h <;> cases h
          · exact h
        · simp only [e, if_false] at h; exact h
      | _ => exact h
  | comp t j =>
    simp only [ASt.drop] at h
    cases ht : look σ.tmps t with
    | none => rw [ht] at h; exact h
    | some y =>
      rw [ht] at h
      cases y <;> simp only [ASt.dropComp] at h <;> try exact h
      rename_i vs
      cases l' with
      | tmp t' =>
        simp only [ASt.at, look_ins] at h ⊢
        by_cases e : t' = t
        · subst e; simp only [if_true, Option.some.injEq] at h; cases h
        · simp only [e, if_false] at h; exact h
      | comp t' j' =>
        simp only [ASt.at, look_ins] at h ⊢
        by_cases e : t' = t
        · subst e
          simp only [if_true, AV.compAt, ht] at h ⊢
          rw [List.getElem?_set] at h
          split at h
          · split at h <;> cases h
          · exact h
        · simp only [e, if_false] at h; exact h
      | _ => exact h
  | box k => exact h
theorem drop_none {l : Loc} {k : Nat} (hk : look σ.vars k = none) : look (σ.drop l).vars k = none := by
  cases l with
  | tmp t => exact hk
  | cell k' j =>
    simp only [ASt.drop, ASt.setCell]
    cases hk' : look σ.vars k' with
    | none => exact hk
    | some cs0 =>
      simp only [ASt.setCellO, look_ins]
      by_cases e : k = k'
      · subst e; rw [hk] at hk'; cases hk'
      · simp only [e, if_false]; exact hk
  | comp t j =>
    simp only [ASt.drop]
    cases ht : look σ.tmps t with
    | none => exact hk
    | some y => cases y <;> exact hk
  | box k => exact hk
theorem Free.drop {g : Nat} (h : Free σ own g) (l : Loc) : Free (σ.drop l) own g := fun l' hl' => ⟨fun sh sz es he => (h l' hl').1 sh sz es (at_drop σ l l' sh sz es he), (h l' hl').2⟩

theorem vrep_imm {M : Nat → Prop} {x : AV} {v : Value} (h : AR M I x v) : VRep M I w x v [] := by
  have hi := h.imm
  cases x <;> first | exact ⟨h, rfl⟩ | cases hi
theorem vrep_nil {M : Nat → Prop} (sh : Bool) (sz : Nat) : VRep M I w (.own sh sz []) (.slice none 0 0) [] := .inl ⟨rfl, rfl, rfl⟩
theorem vrep_row {M : Nat → Prop} {sh : Bool} {sz : Nat} {es : List AV} {g cap : Nat} (hlt : g < w.heap.size) (hr : Row M I w g sh sz es cap) : VRep M I w (.own sh sz es) (.slice (some ⟨g, 0, none⟩) es.length cap) [g] := .inr ⟨g, cap, rfl, rfl, hlt, hr⟩
theorem vreps_snoc {M : Nat → Prop} {x : AV} {v : Value} {g : List Nat} (hx : VRep M I w x v g) : ∀ (ars : List AV) (vs : List Value) (gs : List Nat), VReps M I w ars vs gs → VReps M I w (ars ++ [x]) (vs ++ [v]) (gs ++ g)
  | [], [], gs, h => by
    rw [show gs = [] from h]
    exact ⟨g, [], by simp, hx, rfl⟩
  | y :: ars, u :: vs, gs, h => by
    obtain ⟨g1, g2, rfl, h1, h2⟩ := h
    exact ⟨g1, g2 ++ g, by simp, h1, vreps_snoc hx ars vs g2 h2⟩
  | [], _ :: _, gs, h => h.elim
  | _ :: _, [], gs, h => h.elim
theorem VRep.keep {M N : Nat → Prop} {J : Imm} {x : AV} {v : Value} {gs : List Nat} (h : VRep M I w x v gs) (hM : ∀ b, M b → N b) (hI : Imm.le I J) (hn : ∀ g, g ∈ gs → ∀ o, J g o = I g o) : VRep N J w x v gs := by
  rcases vrep_cases h with ⟨sh, sz, rfl, rfl, rfl⟩ | ⟨sh, sz, es, g, cap, rfl, rfl, rfl, hlt, hr⟩ | ⟨hi, ha, rfl⟩
  · exact .inl ⟨rfl, rfl, rfl⟩
  · exact .inr ⟨g, cap, rfl, rfl, hlt, hr.keep hM hI (fun o ho => by rw [hn g (by simp)]; exact ho) (fun _ => rfl) (fun _ => rfl)⟩
  · exact vrep_imm (ha.mono hM hI)
theorem VReps.keep {M N : Nat → Prop} {J : Imm} (hM : ∀ b, M b → N b) (hI : Imm.le I J) : ∀ (ars : List AV) (vs : List Value) (gs : List Nat), VReps M I w ars vs gs → (∀ g, g ∈ gs → ∀ o, J g o = I g o) → VReps N J w ars vs gs
  | [], [], gs, h, _ => h
  | y :: ars, u :: vs, gs, h, hn => by
    obtain ⟨g1, g2, rfl, h1, h2⟩ := h
    exact ⟨g1, g2, rfl, h1.keep hM hI fun g hg => hn g (List.mem_append_left _ hg), VReps.keep hM hI ars vs g2 h2 fun g hg => hn g (List.mem_append_right _ hg)⟩
  | [], _ :: _, gs, h, _ => h.elim
  | _ :: _, [], gs, h, _ => h.elim

/-- What a tuple's parts are. -/
theorem tup_parts (h : RI F I own σ a w) {i : Nat} {vs : List AV} (hl : look σ.tmps i = some (.tup vs)) {arr : Array Value} (ha : a.tmps[i]? = some (.tuple arr)) (hs : arr.size = vs.length) (hk : vs.all (fun v => v.isImm || v.isOwn) = true) :
    ∀ (n k : Nat), n + k = vs.length → ∃ gs, VReps F.mo I w (vs.drop k) (arr.toList.drop k) gs ∧ gs.Nodup ∧ ∀ g, g ∈ gs → ∃ j, k ≤ j ∧ own g = some (.comp i j)
  | 0, k, hn => ⟨[], by rw [List.drop_eq_nil_of_le (by omega), List.drop_eq_nil_of_le (by simp; omega)]; exact rfl, List.nodup_nil, fun g hg => by cases hg⟩
  | n + 1, k, hn => by
    obtain ⟨gs, h1, h2, h3⟩ := tup_parts h hl ha hs hk n (k + 1) (by omega)
    have hkl : k < vs.length := by omega
    have hka : k < arr.toList.length := by simp; omega
    rw [List.drop_eq_getElem_cons hkl, List.drop_eq_getElem_cons hka]
    obtain ⟨v, hv, hr⟩ := h.slots (.comp i k) vs[k] (by simp only [ASt.at, hl, AV.compAt]; exact List.getElem?_eq_getElem hkl)
    simp only [conc, ha, compOf] at hv
    have hv' : arr.toList[k] = v := by
      have : arr.toList[k]? = some v := by rw [Array.getElem?_toList]; exact hv
      rw [List.getElem?_eq_getElem hka] at this
      exact Option.some.inj this
    rw [hv']
    have hkk := List.all_eq_true.1 hk vs[k] (List.getElem_mem hkl)
    simp only [Bool.or_eq_true] at hkk
    rcases hkk with hi | ho
    · exact ⟨[] ++ gs, ⟨[], gs, rfl, vrep_imm ((srep_imm hi).1 hr), h1⟩, by simpa using h2, fun g hg => by
        obtain ⟨j, e1, e2⟩ := h3 g (by simpa using hg)
        exact ⟨j, by omega, e2⟩⟩
    · generalize vs[k] = x at *
      cases x <;> try cases ho
      rename_i sh sz es
      rcases hr with ⟨rfl, rfl⟩ | ⟨g, cap, rfl, hg, hrow⟩
      · exact ⟨[] ++ gs, ⟨[], gs, rfl, .inl ⟨rfl, rfl, rfl⟩, h1⟩, by simpa using h2, fun g hg => by
          obtain ⟨j, e1, e2⟩ := h3 g (by simpa using hg)
          exact ⟨j, by omega, e2⟩⟩
      · refine ⟨[g] ++ gs, ⟨[g], gs, rfl, .inr ⟨g, cap, rfl, rfl, (h.mine g _ hg).2, hrow⟩, h1⟩, ?_, fun g' hg' => ?_⟩
        · rw [List.singleton_append, List.nodup_cons]
          refine ⟨fun e => ?_, h2⟩
          obtain ⟨j, e1, e2⟩ := h3 g e
          rw [hg] at e2
          cases e2
          omega
        · rw [List.singleton_append, List.mem_cons] at hg'
          rcases hg' with rfl | hg'
          · exact ⟨k, Nat.le_refl _, hg⟩
          · obtain ⟨j, e1, e2⟩ := h3 g' hg'
            exact ⟨j, by omega, e2⟩

theorem op_move (hC : F.C = C) (h : RI F I own σ a w) {P : Program} {dst : Option Tmp} {x : Operand} {ty : TypeId} {pos : String} {after : Array Edge} {g : Option (Nat × Bool)}
    (hw : (opR C σ dst ty (.move x)).wp C K) : Quiet F I P ⟨dst, .move x, ty, pos, after, g⟩ a w (Post F K) := by
  refine by_q (v := a.eval x) (fun _ _ => rfl) ?_
  simp only [opR] at hw
  have hx := rd_ok h C ty x
  by_cases hb : σ.rd C ty x = .bot
  · rw [hb] at hw
    cases x <;> simp only [moveR] at hw <;> try exact hw.elim
    rename_i i
    cases dst with
    | none => exact hw.elim
    | some t =>
      cases hl : look σ.tmps i with
      | none => rw [hl] at hw; exact hw.elim
      | some y =>
        rw [hl] at hw
        cases y <;> simp only [moveTup] at hw <;> try exact hw.elim
        rename_i vs
        have hchk := chk_ok hw
        clear hw
        obtain ⟨hc, hw⟩ := hchk
        simp only [Bool.and_eq_true, Option.isNone_iff_eq_none] at hc
        obtain ⟨v, hv, arr, rfl, hs⟩ := h.slots (.tmp i) _ hl
        simp only [conc] at hv
        obtain ⟨gs, h1, h2, h3⟩ := tup_parts h hl hv hs hc.2 vs.length 0 rfl
        simp only [List.drop_zero] at h1
        have hd : RI F I own (σ.put i .bot) a w := by
          rcases h.drop (.tmp i) with hd | ⟨t', e, ht'⟩
          · exact hd
          · cases e; rw [hl] at ht'; cases ht'
        have he : a.eval (.tmp i) = .tuple arr.toList.toArray := by
          simp only [Act.eval, Array.getD_eq_getD_getElem?, hv, Option.getD_some]
        rw [he]
        refine ⟨I, _, _, hd.putTup (by rw [hC]; exact hc.1.1) hc.1.2 h1 h2 fun g hg => ?_, hw⟩
        obtain ⟨j, _, e⟩ := h3 g hg
        refine ⟨fun l hl' => ?_, (h.mine g _ e).1⟩
        rw [e] at hl'
        cases hl'
        refine ⟨fun sh sz es hat => ?_, fun k e2 => by cases e2⟩
        simp only [ASt.at, look_put, if_true, AV.compAt] at hat
        cases hat
  · have hw' : (σ.wr C dst (σ.rd C ty x)).wp C K := by
      revert hw hb
      generalize σ.rd C ty x = y
      intro hw hb
      cases y <;> first | exact absurd rfl hb | exact hw
    exact wr_rv hC h hw' hx

/-- Arguments in hand. -/
structure Args (F : Fx) (I : Imm) (own : Nat → Option Loc) (σ : ASt) (a : Act) (w : World) (ars : List AV) (vs : List Value) (gs : List Nat) : Prop where
  ri : RI F I own σ a w
  reps : VReps F.mo I w ars vs gs
  nodup : gs.Nodup
  free : ∀ g, g ∈ gs → Free σ own g ∧ F.mine g

theorem arg_own {x : AV} {v : Value} {acc ars : List AV} {vs : List Value} {gs : List Nat} {τ : ASt} (h : Args F I own σ a w acc vs gs) (hx : RV F I own σ a w x v) (he : argOwn σ acc x = some (ars, τ)) :
    ∃ gs', Args F I own τ a w ars (vs ++ [v]) gs' := by
  unfold argOwn at he
  split at he
  · rename_i sh sz
    cases he
    obtain ⟨_, _, rfl⟩ := hx
    exact ⟨gs ++ [], h.ri, vreps_snoc (vrep_nil _ _) _ _ _ h.reps, by simpa using h.nodup, by simpa using h.free⟩
  · rename_i l
    cases hl : σ.at l with
    | none => rw [hl] at he; cases he
    | some q =>
      rw [hl] at he
      cases q <;> simp only [argOwnRef] at he <;> try cases he
      rename_i sh sz es
      obtain ⟨u, k1, k2, k3⟩ := h.ri.inHand hl
      have hv : conc a w l = some v := hx sh sz es hl
      rw [k1] at hv
      cases hv
      rcases k3 with ⟨rfl, rfl⟩ | ⟨g, cap, rfl, kf, km, klt, kr⟩
      · exact ⟨gs ++ [], k2, vreps_snoc (vrep_nil _ _) _ _ _ h.reps, by simpa using h.nodup, fun g hg => ⟨((h.free g (by simpa using hg)).1).drop l, (h.free g (by simpa using hg)).2⟩⟩
      · have hown : own g = some l := by
          obtain ⟨v', hv', hr⟩ := h.ri.slots l _ hl
          rw [k1] at hv'
          cases hv'
          rcases hr with ⟨e, _⟩ | ⟨g', cap', e, hg', _⟩
          · cases e
          · cases e; exact hg'
        have hng : g ∉ gs := fun e => ((h.free g e).1 l hown).1 _ _ _ hl
        refine ⟨gs ++ [g], k2, vreps_snoc (vrep_row klt kr) _ _ _ h.reps, ?_, fun g' hg' => ?_⟩
        · rw [List.nodup_append]
          refine ⟨h.nodup, by simp, fun p hp q hq e => ?_⟩
          rw [List.mem_singleton] at hq
          rw [e, hq] at hp
          exact hng hp
        · rcases List.mem_append.1 hg' with e | e
          · exact ⟨((h.free g' e).1).drop l, (h.free g' e).2⟩
          · simp only [List.mem_singleton] at e
            subst e
            exact ⟨kf, km⟩
  · cases he

theorem args_ok {op : List Nat} : ∀ (xs : List Operand) (ts : List TypeId) (i : Nat) (acc : List AV) (σ : ASt) (I : Imm) (vs : List Value) (gs : List Nat), Args F I own σ a w acc vs gs →
    ∀ ars τ, argsGo C op i xs ts (some (acc, σ)) = some (ars, τ) → ∃ J gs', Imm.le I J ∧ Args F J own τ a w ars (vs ++ xs.map a.eval) gs'
  | [], ts, i, acc, σ, I, vs, gs, h, ars, τ, he => by
    cases he
    exact ⟨I, gs, Imm.leRefl I, by simpa using h⟩
  | x :: xs, ts, i, acc, σ, I, vs, gs, h, ars, τ, he => by
    rw [argsGo] at he
    have hx := rd_ok h.ri C (ts.headD 0) x
    have step : ∀ {J : Imm} {acc1 : List AV} {τ1 : ASt} {gs1 : List Nat}, Imm.le I J → Args F J own τ1 a w acc1 (vs ++ [a.eval x]) gs1 → argsGo C op (i + 1) xs ts.tail (some (acc1, τ1)) = some (ars, τ) →
        ∃ J gs', Imm.le I J ∧ Args F J own τ a w ars (vs ++ (x :: xs).map a.eval) gs' := by
      intro J acc1 τ1 gs1 hle h1 h2
      obtain ⟨J2, gs2, l2, h3⟩ := args_ok xs ts.tail (i + 1) acc1 τ1 J _ gs1 h1 ars τ h2
      exact ⟨J2, gs2, hle.trans l2, by simpa using h3⟩
    split at he
    · cases ha : argOwn σ acc (σ.rd C (ts.headD 0) x) with
      | none => rw [ha] at he; cases xs <;> cases he
      | some q =>
        obtain ⟨acc1, τ1⟩ := q
        rw [ha] at he
        obtain ⟨gs1, h1⟩ := arg_own h hx ha
        exact step (Imm.leRefl I) h1 he
    · cases ha : σ.imm (σ.rd C (ts.headD 0) x) with
      | none => rw [ha] at he; cases xs <;> cases he
      | some q =>
        obtain ⟨y, τ1⟩ := q
        rw [ha] at he
        obtain ⟨J, j1, j2, j3, j4⟩ := imm_okMore h.ri hx ha
        refine step (J := J) (gs1 := gs ++ []) j1 ⟨j2, ?_, by simpa using h.nodup, fun g hg => ?_⟩ he
        · exact vreps_snoc (vrep_imm j3) _ _ _ (VReps.keep (fun _ h => h) j1 _ _ _ h.reps fun g hg => (j4 g (h.free g hg).1).2)
        · exact ⟨(j4 g (h.free g (by simpa using hg)).1).1, (h.free g (by simpa using hg)).2⟩

theorem Dull.imm {x y : AV} (h : Dull x y) (hx : ∀ sh sz es, x ≠ .own sh sz es) : ∀ sh sz es, y ≠ .own sh sz es := by
  induction h with
  | refl => exact hx
  | agg => intro _ _ _ e; cases e
  | sl => intro _ _ _ e; cases e
  | slk => intro _ _ _ e; cases e
  | nil => intro _ _ _ e; cases e
  | hd b x y p hi _ ih => exact ih fun sh sz es e => by subst e; cases hi
theorem vrep_dull {M : Nat → Prop} {x y : AV} {v : Value} {gs : List Nat} (hd : Dull x y) (h : VRep M I w x v gs) : VRep (fun _ => True) I w y v gs := by
  rcases vrep_cases h with ⟨sh, sz, rfl, rfl, rfl⟩ | ⟨sh, sz, es, g, cap, rfl, rfl, rfl, hlt, hr⟩ | ⟨hi, ha, rfl⟩
  · cases hd; exact .inl ⟨rfl, rfl, rfl⟩
  · cases hd; exact .inr ⟨g, cap, rfl, rfl, hlt, hr.keep (fun _ _ => trivial) (Imm.leRefl I) (fun _ h => h) (fun _ => rfl) (fun _ => rfl)⟩
  · exact vrep_imm ((ha.mono (fun _ _ => trivial) (Imm.leRefl I)).dull hd)
theorem vreps_dull {M : Nat → Prop} : ∀ (ars bs : List AV) (vs : List Value) (gs : List Nat), Dulls ars bs → VReps M I w ars vs gs → VReps (fun _ => True) I w bs vs gs
  | [], _, [], gs, hd, h => by cases hd; exact h
  | y :: ars, _, u :: vs, gs, hd, h => by
    cases hd with
    | cons h1 h2 =>
      obtain ⟨g1, g2, rfl, k1, k2⟩ := h
      exact ⟨g1, g2, rfl, vrep_dull h1 k1, vreps_dull ars _ vs g2 h2 k2⟩
  | [], _, _ :: _, gs, hd, h => h.elim
  | _ :: _, _, [], gs, hd, h => h.elim

/-- A call's result goes to its temporary. -/
theorem res_ok (hC : F.C = C) (h : RI F I own σ a w) {d : Option Nat} {res : AV} {v : Value} {gs : List Nat} (hr : RRep F.mo I w res v gs) (hnd : gs.Nodup) (hfree : ∀ g, g ∈ gs → Free σ own g ∧ F.mine g)
    {τ : ASt} (hw : σ.wrRes C d res = .ok τ) (hk : K τ) : Post F K (a.put d v) w := by
  unfold ASt.wrRes at hw
  cases d with
  | none => cases hw; exact ⟨I, own, _, h, hk⟩
  | some t =>
    simp only at hw
    unfold R.chk at hw
    split at hw
    · rename_i hc
      simp only [Bool.and_eq_true, Option.isNone_iff_eq_none] at hc
      have ht : F.C.may t = true := by rw [hC]; exact hc.1
      unfold ASt.wrResTo at hw
      split at hw
      · rename_i sh sz es
        cases hw
        refine ⟨I, _, _, h.putOwn ht hc.2 (v := v) ?_, hk⟩
        rcases vrep_cases (show VRep F.mo I w (.own sh sz es) v gs from hr) with ⟨sh, sz, e, rfl, rfl⟩ | ⟨sh, sz, es, g, cap, e, rfl, rfl, hlt, hr⟩ | ⟨hi, ha, rfl⟩
        · cases e; exact .inl ⟨rfl, rfl⟩
        · cases e; exact .inr ⟨g, cap, rfl, (hfree g (by simp)).1, (hfree g (by simp)).2, hlt, hr⟩
        · cases hi
      · rename_i vs
        cases hw
        obtain ⟨us, rfl, hr⟩ := hr
        exact ⟨I, _, _, h.putTup ht hc.2 hr hnd hfree, hk⟩
      · rename_i h1 h2
        unfold R.chk at hw
        split at hw
        · rename_i hi
          cases hw
          have hv : VRep F.mo I w res v gs := by
            cases res <;> first | exact hr | exact (h2 _ rfl).elim
          have ha : AR F.mo I res v := by
            rcases vrep_cases hv with ⟨sh, sz, rfl, rfl, rfl⟩ | ⟨sh, sz, es, g, cap, rfl, rfl, rfl, hlt, hr⟩ | ⟨hi, ha, rfl⟩
            · cases hi
            · cases hi
            · exact ha
          exact ⟨I, own, _, h.put ht hc.2 (fun _ _ _ e => h1 _ _ _ e) (fun _ e => h2 _ e) ((srep_imm hi).2 ha), hk⟩
        · cases hw
    · cases hw

theorem RRep.wider {M N : Nat → Prop} {res : AV} {v : Value} {gs : List Nat} (h : RRep M I w res v gs) (hM : ∀ b, M b → N b) : RRep N I w res v gs := by
  by_cases ht : ∃ rs, res = .tup rs
  · obtain ⟨rs, rfl⟩ := ht
    obtain ⟨us, e1, e2⟩ := h
    exact ⟨us, e1, VReps.keep hM (Imm.leRefl I) _ _ _ e2 fun _ _ _ => rfl⟩
  · have e1 : VRep M I w res v gs := by
      cases res <;> first | exact h | exact (ht ⟨_, rfl⟩).elim
    have e2 := e1.keep (N := N) hM (Imm.leRefl I) fun _ _ _ => rfl
    cases res <;> first | exact e2 | exact (ht ⟨_, rfl⟩).elim
theorem post_ok (hC : F.C = C) {dst : Option Nat} {ars : List AV} {vs : List Value} {gs : List Nat} (h : Args F I own σ a w ars vs gs) {res : AV} {e : Ending}
    (hq : ∃ v I' gs', e = .returned v ∧ Imm.le I I' ∧ Imm.ok I' w' ∧ Fr w w' (· ∈ gs) ∧
      (∀ b o u, I' b o = some u → I b o = some u ∨ w.heap.size ≤ b ∨ b ∈ gs) ∧ RRep (fun b => F.mo b ∨ w.heap.size ≤ b ∨ b ∈ gs) I' w' res v gs' ∧ gs'.Nodup ∧
      ∀ g, g ∈ gs' → (w.heap.size ≤ g ∨ g ∈ gs) ∧ g < w'.heap.size) {τ : ASt} (hr : σ.wrRes C dst res = .ok τ) (hk : K τ) : ∃ v, e = .returned v ∧ Post F K (a.put dst v) w' := by
  obtain ⟨v, J, gs', rfl, q1, q2, q3, q4, q5, q6, q7⟩ := hq
  have hri := h.ri.called h.free q3 q1 q2 q4
  have hmine : ∀ b, w.heap.size ≤ b ∨ b ∈ gs → F.mine b := by
    intro b hb
    rcases hb with hb | hb
    · exact .inl (Nat.le_trans h.ri.fr.size hb)
    · exact (h.free b hb).2
  have hfree : ∀ g, g ∈ gs' → Free σ own g ∧ F.mine g := by
    intro g hg
    refine ⟨?_, hmine g (q7 g hg).1⟩
    rcases (q7 g hg).1 with e | e
    · intro l hl
      rw [h.ri.own_new e] at hl; cases hl
    · exact (h.free g e).1
  have hmo : ∀ b, F.mo b ∨ w.heap.size ≤ b ∨ b ∈ gs → F.mo b := fun b hb => hb.elim id fun e => h.ri.mko b (hmine b e)
  exact ⟨v, rfl, res_ok hC hri (q5.wider hmo) q6 hfree hr hk⟩

theorem call_ok (hC : F.C = C) {dst : Option Nat} {f : FuncId} {ars : List AV} {vs : List Value} {gs : List Nat} (h : Args F I own σ a w ars vs gs) {bs : List AV} {res : AV} (hd : Dulls ars bs) (hct : Contract C.P f bs res) {τ : ASt} (hr : σ.wrRes C dst res = .ok τ) (hk : K τ) :
    Calls C.P f vs.toArray w fun e w' => ∃ v, e = .returned v ∧ Post F K (a.put dst v) w' :=
  (hct.calls I w vs gs h.ri.imm (vreps_dull ars bs vs gs hd h.reps) h.nodup).mono fun e w' ⟨v, J, gs', q0, q1, q2, q3, q4, q5, q6, q7⟩ => post_ok hC h ⟨v, J, gs', q0, q1, q2, q3, q4, q5.wider fun b hb => .inr hb, q6, q7⟩ hr hk
theorem through_ok (hC : F.C = C) {dst : Option Nat} {f : FuncId} {ars : List AV} {vs : List Value} {gs : List Nat} (h : Args F I own σ a w ars vs gs) {res : AV} (hct : Through C.P f ars res) {τ : ASt} (hr : σ.wrRes C dst res = .ok τ) (hk : K τ) :
    Calls C.P f vs.toArray w fun e w' => ∃ v, e = .returned v ∧ Post F K (a.put dst v) w' :=
  (hct.calls F.mo I w vs gs h.ri.imm h.reps h.nodup).mono fun e w' hq => post_ok hC h hq hr hk

/-- All are values that never change any more: no row is handed over. -/
theorem vreps_imm {M : Nat → Prop} : ∀ (ars : List AV) (vs : List Value) (gs : List Nat), VReps M I w ars vs gs → ars.all AV.isImm = true → gs = []
  | [], [], gs, h, _ => h
  | y :: ars, u :: vs, gs, h, hi => by
    obtain ⟨g1, g2, rfl, k1, k2⟩ := h
    rw [List.all_cons, Bool.and_eq_true] at hi
    rw [vreps_imm ars vs g2 k2 hi.2]
    rcases vrep_cases k1 with ⟨_, _, rfl, _, rfl⟩ | ⟨_, _, _, _, _, rfl, _, _, _, _⟩ | ⟨_, _, rfl⟩
    · cases hi.1
    · cases hi.1
    · rfl
  | [], _ :: _, gs, h, _ => h.elim
  | _ :: _, [], gs, h, _ => h.elim
theorem ar_stow {N : Nat → Prop} {s : Stash} {x : AV} {v : Value} (h : AR s.L s.K x v) (hx : x.stowB1 = true) : AR N I (x.stow s) v := by
  cases x with
  | sl fr sz es =>
    have h1 : v.oneCell' = true := by cases h <;> rfl
    exact .ext _ I v (fun _ _ _ e => e) h1 h
  | bool b => cases h; exact .bool b
  | int k n => cases h; exact .int k n
  | str t => cases h; exact .str t
  | _ => cases hx
theorem ar_stowA {N : Nat → Prop} {s : Stash} {x : AV} {v : Value} (h : AR s.L s.K x v) (hx : x.stowB = true) : AR N I (x.stowA s) v := by
  cases x with
  | agg cs =>
    cases h with
    | agg _ vs hl h1 h =>
      refine .agg _ vs (by rw [List.length_map]; exact hl) h1 fun j c u hc hu => ?_
      rw [List.getElem?_map] at hc
      cases e : cs[j]? with
      | none => rw [e] at hc; cases hc
      | some c0 =>
        rw [e] at hc
        cases hc
        exact ar_stow (h j c0 u e hu) (List.all_eq_true.1 hx c0 (List.mem_of_getElem? e))
  | _ => exact ar_stow h hx
theorem stowB_imm {x : AV} (h : x.stowB = true) : x.isImm = true := by
  cases x <;> first | rfl | cases h
theorem vreps_stow {N : Nat → Prop} {s : Stash} : ∀ (ars : List AV) (vs : List Value) (gs : List Nat), VReps s.L s.K w ars vs gs → ars.all AV.stowB = true → VReps N I w (ars.map (AV.stowA s)) vs gs
  | [], [], gs, h, _ => h
  | y :: ars, u :: vs, gs, h, hi => by
    obtain ⟨g1, g2, rfl, k1, k2⟩ := h
    rw [List.all_cons, Bool.and_eq_true] at hi
    refine ⟨g1, g2, rfl, ?_, vreps_stow ars vs g2 k2 hi.2⟩
    rcases vrep_cases k1 with ⟨_, _, rfl, _, rfl⟩ | ⟨_, _, _, _, _, rfl, _, _, _, _⟩ | ⟨_, ha, rfl⟩
    · cases hi.1
    · cases hi.1
    · exact vrep_imm (ar_stowA ha hi.1)
  | [], _ :: _, gs, h, _ => h.elim
  | _ :: _, [], gs, h, _ => h.elim
theorem all_stow_imm : ∀ {ars : List AV}, ars.all AV.stowB = true → ars.all AV.isImm = true
  | [], _ => rfl
  | x :: ars, h => by
    rw [List.all_cons, Bool.and_eq_true] at h ⊢
    exact ⟨stowB_imm h.1, all_stow_imm h.2⟩

theorem fork_ok (hC : F.C = C) {dst : Option Nat} {f : FuncId} {ars : List AV} {vs : List Value} {gs : List Nat} (h : Args F I own σ a w ars vs gs) {bs : List AV} {res : AV} (hd : Dulls ars bs) (hct : Contract C.P f bs res)
    (h1 : ars.all AV.isImm = true) (h2 : res.stowBT = true) (hr : ∀ s, ∃ τ, (σ.stow s).wrRes C dst (res.stowT s) = .ok τ ∧ K τ) :
    Calls C.P f vs.toArray w fun e w' => ∃ v, e = .returned v ∧ Post F K (a.put dst v) w' := by
  obtain rfl := vreps_imm ars vs gs h.reps h1
  refine (hct.calls I w vs [] h.ri.imm (vreps_dull ars bs vs [] hd h.reps) h.nodup).mono fun e w' hq => ?_
  obtain ⟨v, J, gs', rfl, q1, q2, q3, q4, q5, q6, q7⟩ := hq
  have hI' : Imm.ok I w' := fun b o u hu => q2 b o u (q1 b o u hu)
  have hri := h.ri.called (J := I) (gs := []) (fun g hg => by cases hg) q3 (Imm.leRefl I) hI' (fun b o u hu => .inl hu)
  have hfz : ∀ b o u, w.heap.size ≤ b → J b o = some u → w'.cell? ⟨b, o, none⟩ = some u ∧ w'.frozen? ⟨b, o, none⟩ = false := fun b o u hb hu => by
    refine ⟨q2 b o u hu, ?_⟩
    rcases q3.new b o u (q2 b o u hu) with ⟨⟨u', e⟩, _⟩ | ⟨_, e⟩
    · have : b < w.heap.size := World.block_lt_of_cell? _ _ e
      omega
    · exact e
  obtain ⟨s, hs⟩ : ∃ s : Stash, s = ⟨J, fun b => w.heap.size ≤ b, fun b => w.heap.size ≤ b ∧ b < w'.heap.size⟩ := ⟨_, rfl⟩
  have hst := hri.stowed h.ri.imm (fun b l hb => (h.ri.mine b l hb).2) h.ri.fr.size [s] (fun t ht b hb => by rw [List.mem_singleton.1 ht, hs] at hb; exact hb)
    (fun t ht b o u h1 h2 => by rw [List.mem_singleton.1 ht, hs] at h1 h2; exact hfz b o u h1 h2) (fun t ht b o u h1 h2 => by rw [List.mem_singleton.1 ht, hs] at h1 h2 ⊢; exact ⟨h1, World.block_lt_of_cell? _ _ (q2 b o u h2)⟩)
    (fun t ht b o u h1 h2 => by
      rw [List.mem_singleton.1 ht, hs] at h1 h2
      rcases q4 b o u h2 with e | e | e
      · exact e
      · exact (h1 e).elim
      · cases e) (fun t ht b h1 => by rw [List.mem_singleton.1 ht, hs] at h1 ⊢; exact h1.1) (List.pairwise_singleton _ _)
  obtain ⟨τ, hr, hk⟩ := hr s
  have hM : ∀ b, (w.heap.size ≤ b ∨ b ∈ ([] : List Nat)) → s.L b := fun b hb => by
    rw [hs]
    exact hb.elim id fun e => by cases e
  have hK : Imm.le J s.K := by rw [hs]; exact Imm.leRefl J
  have hres : RRep F.mo I w' (res.stowT s) v gs' ∧ gs' = [] := by
    by_cases ht : ∃ rs, res = .tup rs
    · obtain ⟨rs, rfl⟩ := ht
      obtain ⟨us', e1, e2⟩ := q5
      have e3 := VReps.keep hM hK _ _ _ e2 fun _ _ _ => by rw [hs]
      exact ⟨⟨us', e1, vreps_stow _ _ _ e3 h2⟩, vreps_imm rs us' gs' e2 (all_stow_imm h2)⟩
    · have e1 : VRep (fun b => w.heap.size ≤ b ∨ b ∈ ([] : List Nat)) J w' res v gs' := by
        cases res <;> first | exact q5 | exact (ht ⟨_, rfl⟩).elim
      have hb : res.stowB = true := by cases res <;> first | exact h2 | exact (ht ⟨_, rfl⟩).elim
      have e2 : res.stowT s = res.stowA s := by cases res <;> first | rfl | exact (ht ⟨_, rfl⟩).elim
      rcases vrep_cases e1 with ⟨_, _, rfl, _, rfl⟩ | ⟨_, _, _, _, _, rfl, _, _, _, _⟩ | ⟨_, ha, rfl⟩
      · cases hb
      · cases hb
      · have e3 := vrep_imm (w := w') (ar_stowA (N := F.mo) (I := I) (ha.mono hM hK) hb)
        rw [e2]
        refine ⟨?_, rfl⟩
        have e4 : ∀ rs, res.stowA s ≠ .tup rs := fun rs e => by
          cases res <;> first | (cases e; done) | cases hb
        revert e3 e4
        generalize res.stowA s = r
        intro e3 e4
        cases r <;> first | exact e3 | exact (e4 _ rfl).elim
  obtain ⟨hres, rfl⟩ := hres
  exact ⟨v, rfl, res_ok hC hst hres List.nodup_nil (fun g hg => by cases hg) hr hk⟩

theorem fork2_ok (hC : F.C = C) {dst : Option Nat} {f : FuncId} {ars : List AV} {vs : List Value} {gs : List Nat} (h : Args F I own σ a w ars vs gs) {bs : List AV} {x y z : AV} (hd : Dulls ars bs) (hct : Contract2 C.P f bs x y z)
    (h1 : ars.all AV.isImm = true) (h2 : x.stowB = true) (h3 : y.stowB = true) (h4 : z.scal = true) (hr : ∀ s t, ∃ τ, ((σ.stow t).stow s).wrRes C dst (.tup [x.stowA s, y.stowA t, z]) = .ok τ ∧ K τ) :
    Calls C.P f vs.toArray w fun e w' => ∃ v, e = .returned v ∧ Post F K (a.put dst v) w' := by
  obtain rfl := vreps_imm ars vs gs h.reps h1
  refine (hct.calls I w vs h.ri.imm (vreps_dull ars bs vs [] hd h.reps)).mono fun e w' hq => ?_
  obtain ⟨v1, v2, v3, J, M1, M2, rfl, q1, q2, q3, q4, m1, m2, m12, a1, a2, a3⟩ := hq
  have q3' : Fr w w' (· ∈ ([] : List Nat)) := ⟨q3.os, q3.tape, q3.output, q3.size, fun k hk _ => q3.block k hk id, q3.new⟩
  have hI' : Imm.ok I w' := fun b o u hu => q2 b o u (q1 b o u hu)
  have hri := h.ri.called (J := I) (gs := []) (fun g hg => by cases hg) q3' (Imm.leRefl I) hI' (fun b o u hu => .inl hu)
  have hfz : ∀ b o u, w.heap.size ≤ b → J b o = some u → w'.cell? ⟨b, o, none⟩ = some u ∧ w'.frozen? ⟨b, o, none⟩ = false := fun b o u hb hu => by
    refine ⟨q2 b o u hu, ?_⟩
    rcases q3.new b o u (q2 b o u hu) with ⟨⟨u', e⟩, _⟩ | ⟨_, e⟩
    · have : b < w.heap.size := World.block_lt_of_cell? _ _ e
      omega
    · exact e
  have mk : ∀ M : Nat → Prop, ∃ K : Imm, ∀ b o u, K b o = some u ↔ M b ∧ J b o = some u := fun M => by
    refine ⟨fun b o => by classical exact if M b then J b o else none, fun b o u => ?_⟩
    by_cases e : M b
    · simp [e]
    · simp [e]
  obtain ⟨K1, k1⟩ := mk M1
  obtain ⟨K2, k2⟩ := mk M2
  obtain ⟨s, hs⟩ : ∃ s : Stash, s = ⟨K1, M1, fun b => M1 b ∧ b < w'.heap.size⟩ := ⟨_, rfl⟩
  obtain ⟨t, ht⟩ : ∃ t : Stash, t = ⟨K2, M2, fun b => M2 b ∧ b < w'.heap.size⟩ := ⟨_, rfl⟩
  have each : ∀ (M : Nat → Prop) (K : Imm) (r : Stash), r = ⟨K, M, fun b => M b ∧ b < w'.heap.size⟩ → (∀ b, M b → w.heap.size ≤ b) → (∀ b o u, K b o = some u ↔ M b ∧ J b o = some u) →
      (∀ b, r.B b → w.heap.size ≤ b ∧ b < w'.heap.size) ∧ (∀ b o u, r.L b → r.K b o = some u → w'.cell? ⟨b, o, none⟩ = some u ∧ w'.frozen? ⟨b, o, none⟩ = false) ∧ (∀ b o u, r.L b → r.K b o = some u → r.B b) ∧ (∀ b o u, ¬ r.L b → r.K b o = some u → I b o = some u) ∧ ∀ b, r.B b → r.L b := by
    rintro M K r rfl hm hk
    exact ⟨fun b hb => ⟨hm b hb.1, hb.2⟩, fun b o u l1 l2 => hfz b o u (hm b l1) ((hk b o u).1 l2).2, fun b o u l1 l2 => ⟨l1, World.block_lt_of_cell? _ _ (q2 b o u ((hk b o u).1 l2).2)⟩, fun b o u l1 l2 => (l1 ((hk b o u).1 l2).1).elim, fun b hb => hb.1⟩
  have es := each M1 K1 s hs m1 k1
  have et := each M2 K2 t ht m2 k2
  have both : ∀ {p : Stash → Prop}, p s → p t → ∀ r, r ∈ [s, t] → p r := fun ps pt r hr => by
    simp only [List.mem_cons, List.not_mem_nil, or_false] at hr
    rcases hr with rfl | rfl
    · exact ps
    · exact pt
  have hst := hri.stowed h.ri.imm (fun b l hb => (h.ri.mine b l hb).2) h.ri.fr.size [s, t] (both es.1 et.1) (both es.2.1 et.2.1) (both es.2.2.1 et.2.2.1) (both es.2.2.2.1 et.2.2.2.1) (both es.2.2.2.2 et.2.2.2.2)
    (List.pairwise_cons.2 ⟨fun r hr b hb => by rw [List.mem_singleton.1 hr, ht]; rw [hs] at hb; exact fun e => m12 b hb.1 e.1, List.pairwise_singleton _ _⟩)
  obtain ⟨τ, hr, hk⟩ := hr s t
  have b1 : AR F.mo I (x.stowA s) v1 := ar_stowA (by rw [hs]; exact a1.only K1 (fun b o u l1 l2 => (k1 b o u).2 ⟨l1, l2⟩) hct.mx) h2
  have b2 : AR F.mo I (y.stowA t) v2 := ar_stowA (by rw [ht]; exact a2.only K2 (fun b o u l1 l2 => (k2 b o u).2 ⟨l1, l2⟩) hct.my) h3
  have b3 : AR F.mo I z v3 := by
    cases z <;> first | (cases a3; constructor; done) | cases h4
  have hres : RRep F.mo I w' (.tup [x.stowA s, y.stowA t, z]) (.tuple #[v1, v2, v3]) [] := ⟨[v1, v2, v3], rfl, [], [], rfl, vrep_imm b1, [], [], rfl, vrep_imm b2, [], [], rfl, vrep_imm b3, rfl⟩
  exact ⟨_, rfl, res_ok hC hst hres List.nodup_nil (fun g hg => by cases hg) hr hk⟩
theorem ghost_ok (hC : F.C = C) {dst : Option Nat} {f : FuncId} {ars : List AV} {vs : List Value} {gs : List Nat} (h : Args F I own σ a w ars vs gs) {bs : List AV} {res : (Nat → Option Nat) → AV} (hd : Dulls ars bs) (hct : Ghost C.P f bs res)
    (hr : ∀ col, ∃ τ, σ.wrRes C dst (res col) = .ok τ ∧ K τ) : Calls C.P f vs.toArray w fun e w' => ∃ v, e = .returned v ∧ Post F K (a.put dst v) w' := by
  refine (hct.calls I w vs gs h.ri.imm (vreps_dull ars bs vs gs hd h.reps) h.nodup).mono fun e w' ⟨col, v, J, gs', q0, q1, q2, q3, q4, q5, q6, q7⟩ => ?_
  obtain ⟨τ, h1, h2⟩ := hr col
  exact post_ok hC h ⟨v, J, gs', q0, q1, q2, q3, q4, q5.wider fun b hb => .inr hb, q6, q7⟩ h1 h2

theorem bys_reps {J : Imm} {s : Stash} (hI : Imm.le I J) (hK : Imm.le s.K J) {M : Nat → Prop} : ∀ {ars bs : List AV}, Bys s ars bs → ∀ (vs : List Value) (gs : List Nat), VReps M I w ars vs gs → VReps (fun _ => True) J w bs vs [] ∧ gs = []
  | [], _, .nil, [], gs, h => ⟨rfl, h⟩
  | _ :: _, _ :: _, .cons h1 h2, u :: vs, gs, h => by
    obtain ⟨g1, g2, rfl, k1, k2⟩ := h
    obtain ⟨e1, rfl⟩ := bys_reps hI hK h2 vs g2 k2
    have hi := h1.imm
    rcases vrep_cases k1 with ⟨_, _, rfl, _, rfl⟩ | ⟨_, _, _, _, _, rfl, _, _, _, _⟩ | ⟨_, ha, rfl⟩
    · cases hi
    · cases hi
    · exact ⟨⟨[], [], rfl, vrep_imm (by_ar h1 hI hK ha), e1⟩, rfl⟩
  | [], _, .nil, _ :: _, gs, h => h.elim
  | _ :: _, _ :: _, .cons _ _, [], gs, h => h.elim

theorem ask_ok (hC : F.C = C) {dst : Option Nat} {f : FuncId} {ars : List AV} {vs : List Value} {gs : List Nat} (h : Args F I own σ a w ars vs gs) {s : Stash} (hs : s ∈ σ.st) {bs : List AV} {res : AV} (hd : Bys s ars bs) (hct : Contract C.P f bs res)
    (h2 : res.scal = true) {τ : ASt} (hr : σ.wrRes C dst res = .ok τ) (hk : K τ) :
    Calls C.P f vs.toArray w fun e w' => ∃ v, e = .returned v ∧ Post F K (a.put dst v) w' := by
  obtain ⟨o1, o2, o3⟩ := over_ok (h.ri.st.ok s hs) h.ri.imm
  obtain ⟨hb, rfl⟩ := bys_reps o2 o3 hd vs gs h.reps
  refine (hct.calls (s.over I) w vs [] o1 hb .nil).mono fun e w' hq => ?_
  obtain ⟨v, J, gs', rfl, q1, q2, q3, q4, q5, q6, q7⟩ := hq
  have hI' : Imm.ok I w' := fun b o u hu => q2 b o u (q1 b o u (o2 b o u hu))
  have hri := h.ri.called (J := I) (gs := []) (fun g hg => by cases hg) q3 (Imm.leRefl I) hI' (fun b o u hu => .inl hu)
  have hres : RRep F.mo I w' res v gs' ∧ gs' = [] := by
    cases res with
    | bool b =>
      obtain ⟨e1, rfl⟩ := q5
      cases e1
      exact ⟨⟨.bool b, rfl⟩, rfl⟩
    | int k n =>
      obtain ⟨e1, rfl⟩ := q5
      cases e1
      exact ⟨⟨.int k n, rfl⟩, rfl⟩
    | str t =>
      obtain ⟨e1, rfl⟩ := q5
      cases e1
      exact ⟨⟨.str t, rfl⟩, rfl⟩
    | _ => cases h2
  obtain ⟨hres, rfl⟩ := hres
  exact ⟨v, rfl, res_ok hC hri hres List.nodup_nil (fun g hg => by cases hg) hr hk⟩

theorem spoil_ok (hC : F.C = C) (hF : SpF F) {dst : Option Nat} {f : FuncId} {vs : List Value} {gs : List Nat} {y x : AV} (h : Args F I own σ a w [y] vs gs) {s : Stash} {l1 l2 : List Stash} (hl : σ.st = l1 ++ s :: l2) (hi : Sty s y x) (hs : Spoil C.P f x)
    {τ : ASt} (hr : (σ.unstow (l1 ++ l2)).wrRes C dst (.tup []) = .ok τ) (hk : K τ) :
    Calls C.P f vs.toArray w fun e w' => ∃ v, e = .returned v ∧ Post F K (a.put dst v) w' := by
  have hyi := hi.imm
  obtain rfl := vreps_imm [y] vs gs h.reps (by rw [List.all_cons, hyi]; rfl)
  match vs, h with
  | [v], h =>
    obtain ⟨g1, g2, hg, k1, k2⟩ := h.reps
    have hy : AR F.mo I y v := by
      rcases vrep_cases k1 with ⟨_, _, rfl, _, rfl⟩ | ⟨_, _, _, _, _, rfl, _, _, _, _⟩ | ⟨_, ha, rfl⟩
      · cases hyi
      · cases hyi
      · exact ha
    have hsk := h.ri.st.ok s (by rw [hl]; simp)
    obtain ⟨o1, o2, o3⟩ := over_ok hsk h.ri.imm
    have hx := ((sty_ar hi hy).wide hs.wide).mono (J := s.over I) (fun _ h => h) o3
    have hB : ∀ b, (∀ M, AR M (s.over I) x v → M b) → s.B b := fun b hb => by
      obtain ⟨h1, o, u, h2⟩ := hb _ hx
      exact hsk.top b o u h1 h2
    have hfr : ∀ b, (∀ M, AR M (s.over I) x v → M b) → ∀ o u, s.over I b o = some u → w.frozen? ⟨b, o, none⟩ = false := by
      intro b hb o u hu
      have h1 := hB b hb
      unfold Stash.over at hu
      rw [if_pos h1] at hu
      exact (hsk.cells b o u (hsk.sub b h1) hu).2
    refine (hs.calls (s.over I) w v o1 hx.tt hfr).mono fun e w' hq => ?_
    obtain ⟨rfl, hw⟩ := hq
    have hri := h.ri.spoiled hF hl (fun b hb => hB b hb.1) hw
    exact ⟨_, rfl, res_ok hC hri (res := .tup []) ⟨[], rfl, rfl⟩ List.nodup_nil (fun g hg => by cases hg) hr hk⟩
  | [], h => exact h.reps.elim
  | _ :: _ :: _, h => obtain ⟨_, _, _, _, h2⟩ := h.reps; exact h2.elim

theorem run_enter {P : Program} {f : FuncId} (he : ∃ fn c, P.funcs[f]? = some fn ∧ (fn.name == "runtime.NumGoroutine") = false ∧ fn.body = some c) (args : Array Value) : (callFunc f args).run P w = .ok (.enter f args) w := by
  obtain ⟨fn, c, h1, h2, h3⟩ := he
  have h4 : fn.name ≠ "runtime.NumGoroutine" := by simpa using h2
  simp [callFunc, h1, h4, h3]

theorem call_end (hC : F.C = C) (h : RI F I own σ a w) {dst : Option Tmp} {f : FuncId} {op : List Nat} {c : Call} {o : Oper} (ho : o.op = .call c) (hd : o.dst = dst) {x : Operand} (hc : c.callee = .value x) (hx : a.eval x = .func (.func f) #[] #[])
    {sp : Bool} (hsp : sp = true → C.spl f = true → SpF F) (hw : (callEnd sp f dst (argsGo C op 0 c.args.toList c.argTypes.toList (some ([], σ)))).wp C K) : Oper.wp C.P o a w (Post F K) Q := by
  cases ha : argsGo C op 0 c.args.toList c.argTypes.toList (some ([], σ)) with
  | none => rw [ha] at hw; exact hw.elim
  | some q =>
    obtain ⟨ars, τ⟩ := q
    rw [ha] at hw
    obtain ⟨J, gs, _, hA⟩ := args_ok c.args.toList c.argTypes.toList 0 [] σ I [] [] ⟨h, rfl, List.nodup_nil, fun g hg => by cases hg⟩ ars τ ha
    have hargs : ([] ++ c.args.toList.map a.eval).toArray = c.args.map a.eval := by
      rw [List.nil_append, ← Array.toList_map]
    cases sp with
    | true =>
      have hw : Forks C K f ars dst τ ∨ Asks C K f ars dst τ ∨ Spoils C K f ars dst τ ∨ Plains C K f ars dst τ ∨ Forks2 C K f ars dst τ := hw
      rcases hw with hw | hw | hw | hw | hw
      · obtain ⟨bs, res, hd', hct, h1, h2, h4⟩ := hw
        have hcall := fork_ok (K := K) hC hA hd' hct h1 h2 h4
        have hrun : (execOp a.eval o).run C.P w = .ok (.enter f (c.args.map a.eval)) w := by
          have he := run_enter (w := w) hct.enters (c.args.map a.eval)
          unfold execOp
          simp [ho, resolve, hc, hx, Deferred.ofValue, invoke, he]
        unfold Oper.wp
        rw [hrun, Oper.upon_enter]
        rw [hargs] at hcall
        refine hcall.mono fun e w'' hh => ?_
        obtain ⟨v, rfl, hk⟩ := hh
        subst hd
        exact hk
      · obtain ⟨s, bs, res, hs, hd', hct, h1, τ', hr, hk⟩ := hw
        have hcall := ask_ok (K := K) hC hA hs hd' hct h1 hr hk
        have hrun : (execOp a.eval o).run C.P w = .ok (.enter f (c.args.map a.eval)) w := by
          have he := run_enter (w := w) hct.enters (c.args.map a.eval)
          unfold execOp
          simp [ho, resolve, hc, hx, Deferred.ofValue, invoke, he]
        unfold Oper.wp
        rw [hrun, Oper.upon_enter]
        rw [hargs] at hcall
        refine hcall.mono fun e w'' hh => ?_
        obtain ⟨v, rfl, hk⟩ := hh
        subst hd
        exact hk
      · obtain ⟨s, l1, l2, y, x, hsl, hl, rfl, hi, hs, τ', hr, hk⟩ := hw
        have hcall := spoil_ok (K := K) hC (hsp rfl hsl) hA hl hi hs hr hk
        have hrun : (execOp a.eval o).run C.P w = .ok (.enter f (c.args.map a.eval)) w := by
          have he := run_enter (w := w) hs.enters (c.args.map a.eval)
          unfold execOp
          simp [ho, resolve, hc, hx, Deferred.ofValue, invoke, he]
        unfold Oper.wp
        rw [hrun, Oper.upon_enter]
        rw [hargs] at hcall
        refine hcall.mono fun e w'' hh => ?_
        obtain ⟨v, rfl, hk⟩ := hh
        subst hd
        exact hk
      · obtain ⟨bs, res, hd', hct, τ', hr, hk⟩ := hw
        have hcall := call_ok (K := K) hC hA hd' hct hr hk
        have hrun : (execOp a.eval o).run C.P w = .ok (.enter f (c.args.map a.eval)) w := by
          have he := run_enter (w := w) hct.enters (c.args.map a.eval)
          unfold execOp
          simp [ho, resolve, hc, hx, Deferred.ofValue, invoke, he]
        unfold Oper.wp
        rw [hrun, Oper.upon_enter]
        rw [hargs] at hcall
        refine hcall.mono fun e w'' hh => ?_
        obtain ⟨v, rfl, hk⟩ := hh
        subst hd
        exact hk
      · obtain ⟨bs, x1, y1, z1, hd', hct, h1, h2, h3, h4, h5⟩ := hw
        have hcall := fork2_ok (K := K) hC hA hd' hct h1 h2 h3 h4 h5
        have hrun : (execOp a.eval o).run C.P w = .ok (.enter f (c.args.map a.eval)) w := by
          have he := run_enter (w := w) hct.enters (c.args.map a.eval)
          unfold execOp
          simp [ho, resolve, hc, hx, Deferred.ofValue, invoke, he]
        unfold Oper.wp
        rw [hrun, Oper.upon_enter]
        rw [hargs] at hcall
        refine hcall.mono fun e w'' hh => ?_
        obtain ⟨v, rfl, hk⟩ := hh
        subst hd
        exact hk
    | false =>
    have hw : (∃ bs res, Dulls ars bs ∧ (Contract C.P f bs res ∨ Extern C.P f bs res ∨ bs = ars ∧ Through C.P f ars res) ∧ ∃ σ', τ.wrRes C dst res = .ok σ' ∧ K σ') ∨ Ghosts C K f ars dst τ := hw
    rcases hw with hw | hw
    case inr =>
        obtain ⟨bs, res, hd', hct, h5⟩ := hw
        have hcall := ghost_ok (K := K) hC hA hd' hct h5
        have hrun : (execOp a.eval o).run C.P w = .ok (.enter f (c.args.map a.eval)) w := by
          have he := run_enter (w := w) hct.enters (c.args.map a.eval)
          unfold execOp
          simp [ho, resolve, hc, hx, Deferred.ofValue, invoke, he]
        unfold Oper.wp
        rw [hrun, Oper.upon_enter]
        rw [hargs] at hcall
        refine hcall.mono fun e w'' hh => ?_
        obtain ⟨v, rfl, hk⟩ := hh
        subst hd
        exact hk
    obtain ⟨bs, res, hd', hct, τ', hr, hk⟩ := hw
    rcases hct with hct | hext | ⟨rfl, hct⟩
    case inr.inr =>
      have hcall := through_ok (K := K) hC hA hct hr hk
      have hrun : (execOp a.eval o).run C.P w = .ok (.enter f (c.args.map a.eval)) w := by
        have he := run_enter (w := w) hct.enters (c.args.map a.eval)
        unfold execOp
        simp [ho, resolve, hc, hx, Deferred.ofValue, invoke, he]
      unfold Oper.wp
      rw [hrun, Oper.upon_enter]
      rw [hargs] at hcall
      refine hcall.mono fun e w'' hh => ?_
      obtain ⟨v, rfl, hk⟩ := hh
      subst hd
      exact hk
    case inr.inl =>
      obtain ⟨v, hv, hrep⟩ := hext J w _ gs hA.ri.imm (vreps_dull ars bs _ gs hd' hA.reps)
      rw [hargs] at hv
      have hrun : (execOp a.eval o).run C.P w = .ok (.value v) w := by
        unfold execOp
        simp [ho, resolve, hc, hx, Deferred.ofValue, invoke, hv]
      refine by_value hrun ?_
      rw [hd]
      have hres : RRep F.mo J w res v [] := by
        by_cases ht : ∃ rs, res = .tup rs
        · obtain ⟨rs, rfl⟩ := ht
          obtain ⟨us, e1, e2⟩ := hrep
          exact ⟨us, e1, VReps.keep (fun _ h => h.elim) (Imm.leRefl J) _ _ _ e2 fun _ _ _ => rfl⟩
        · have e1 : VRep (fun _ => False) J w res v [] := by
            cases res <;> first | exact hrep | exact (ht ⟨_, rfl⟩).elim
          have e2 := e1.keep (M := fun _ => False) (N := F.mo) (fun _ h => h.elim) (Imm.leRefl J) fun _ _ _ => rfl
          cases res <;> first | exact e2 | exact (ht ⟨_, rfl⟩).elim
      exact res_ok hC hA.ri hres List.nodup_nil (fun g hg => by cases hg) hr hk
    have hcall := call_ok (K := K) hC hA hd' hct hr hk
    have hrun : (execOp a.eval o).run C.P w = .ok (.enter f (c.args.map a.eval)) w := by
      have he := run_enter (w := w) hct.enters (c.args.map a.eval)
      unfold execOp
      simp [ho, resolve, hc, hx, Deferred.ofValue, invoke, he]
    unfold Oper.wp
    rw [hrun, Oper.upon_enter]
    rw [hargs] at hcall
    refine hcall.mono fun e w'' hh => ?_
    obtain ⟨v, rfl, hk⟩ := hh
    subst hd
    exact hk

theorem op_call (hC : F.C = C) (hok : CfgOk C) (h : RI F I own σ a w) {dst : Option Tmp} {c : Call} {ty : TypeId} {pos : String} {after : Array Edge} {g : Option (Nat × Bool)}
    (hsp : specC C c.callee = true → SpF F) (hw : (opR C σ dst ty (.call c)).wp C K) : Oper.wp C.P ⟨dst, .call c, ty, pos, after, g⟩ a w (Post F K) Q := by
  cases hcl : c.callee with
  | builtin b =>
    have hw' := hw
    simp only [opR, hcl] at hw'
    cases b <;> simp only [callR] at hw' <;> try exact hw'.elim
    · exact op_append hC hok h hcl hw
    · exact quiet_wp h (op_len hC hok h hcl hw)
    · exact quiet_wp h (op_max hC h hcl hw)
  | invoke r n =>
    simp only [opR, hcl, callR] at hw
    exact hw.elim
  | value x =>
    simp only [opR, hcl] at hw
    cases x <;> simp only [callR] at hw <;> try exact hw.elim
    · rename_i t
      unfold callFn at hw
      cases hl : look σ.tmps t with
      | none => rw [hl] at hw; exact hw.elim
      | some y =>
        rw [hl] at hw
        cases y <;> simp only [fnOf] at hw <;> try exact hw.elim
        rename_i f
        have hx := rd_ok h C 0 (.tmp t)
        simp only [ASt.rd, hl, AV.seen] at hx
        have : a.eval (.tmp t) = .func (.func f) #[] #[] := by
          have ha := (rv_imm (show (AV.fn f).isImm = true from rfl)).1 hx
          generalize a.eval (.tmp t) = v at ha
          cases ha; rfl
        exact call_end hC h rfl rfl hcl this (fun e => by cases e) hw
    · rename_i f
      exact call_end hC h rfl rfl hcl rfl (fun _ e => hsp (by rw [hcl]; exact e)) hw

end
end Go.Proofs.Ytmngjlgeojbghaa.VA
end
section
namespace Go.Proofs.Ytmngjlgeojbghaa.VA
section
variable {F : Fx} {I : Imm} {own : Nat → Option Loc} {σ : ASt} {a : Act} {w w' : World} {C : Cfg} {K : ASt → Prop} {Q : Exit → Act → World → Prop}

/-- What an operation may do while variables are locked. -/
def OkLk (F : Fx) (σ : ASt) (o : Oper) : Prop :=
  match o.op with
  | .alloc _ | .box _ _ => ∀ d, o.dst = some d → F.lv d = false
  | .store _ p _ => ∀ k off, σ.rd F.C 0 p = .var k off → F.lv k = false
  | .call c => specC F.C c.callee = true → SpF F
  | _ => True
theorem OkLk.of_open {F : Fx} (h : F.open) (_hs : F.spo) (σ : ASt) (o : Oper) : OkLk F σ o := by
  unfold OkLk
  split <;> first | exact fun d _ => h.1 d | exact fun k _ _ => h.1 k | exact fun _ => h.special | trivial
theorem OkLk.of_plain {F : Fx} (h : F.open) (σ : ASt) (o : Oper) (hs : specO F.C o = false) : OkLk F σ o := by
  unfold OkLk
  unfold specO at hs
  split <;> rename_i heq <;> first | exact fun d _ => h.1 d | exact fun k _ _ => h.1 k | (simp only [heq] at hs; exact fun e => by rw [e] at hs; cases hs) | trivial

theorem op_ok (hC : F.C = C) (hok : CfgOk C) {o : Oper} (hlk : OkLk F σ o) (h : RI F I own σ a w) (hw : (opR C σ o.dst o.type o.op).wp C K) : o.wp C.P a w (Post F K) Q := by
  obtain ⟨dst, op, ty, pos, after, g⟩ := o
  simp only at hw
  simp only [OkLk] at hlk
  cases op with
  | move x => exact quiet_wp h (op_move hC h hw)
  | assign x => exact quiet_wp h (op_assign hC h hw)
  | pick c x y => exact quiet_wp h (op_pick hC h hw)
  | alloc T => exact op_alloc hC hok h hlk hw
  | box T x => exact op_box hC h hlk hw
  | build T parts => exact op_build hC hok h hw
  | buildSlice T n parts => exact op_buildSlice hC hok h hw
  | load T x => exact op_load hC hok h hw
  | store T p x => exact op_store hok h (by rw [← hC]; exact hlk) hw
  | binOp op T x y T2 => exact quiet_wp h (op_bin hC hok h hw)
  | unOp op T x => exact quiet_wp h (op_un hC h hw)
  | convert S T x => exact op_convert hC hok h hw
  | makeFunc fn first captured =>
    cases fn <;> simp only [opR] at hw <;> try exact hw.elim
    exact quiet_wp h (op_makeFunc hC h hw)
  | makeSlice T l c => exact op_makeSlice hC hok h hw
  | slice T x lo hi mx =>
    cases mx with
    | none => exact quiet_wp h (op_slice hC hok h hw)
    | some m => exact hw.elim
  | fieldAddr T x f => exact quiet_wp h (op_fieldAddr hC hok h hw)
  | field T x f => exact quiet_wp h (op_field hC hok h hw)
  | indexAddr T x ix => exact quiet_wp h (op_indexAddr hC hok h hw)
  | index T x ix => exact quiet_wp h (op_index hC hok h hw)
  | extract x i =>
    cases x <;> simp only [opR] at hw <;> try exact hw.elim
    exact quiet_wp h (op_extract hC h hw)
  | call c => exact op_call hC hok h (by rw [← hC]; exact hlk) hw
  | _ => exact hw.elim

/-- A place that bears just what it bears. -/
theorem RI.again (h : RI F I own σ a w) {t : Nat} {x : AV} (hx : look σ.tmps t = some x) : RI F I own { σ with tmps := ins t x σ.tmps } a w := by
  refine h.weaken (fun l y hy => ⟨y, ?_, .inl rfl⟩) fun k cs hk => ⟨cs, hk, rfl⟩
  cases l with
  | tmp j =>
    simp only [ASt.at, look_ins] at hy ⊢
    by_cases e : j = t
    · subst e
      simp only [if_true] at hy
      rw [hx]; exact hy
    · simp only [e, if_false] at hy; exact hy
  | comp j i =>
    simp only [ASt.at, look_ins] at hy ⊢
    by_cases e : j = t
    · subst e
      simp only [if_true] at hy
      rw [hx]; exact hy
    · simp only [e, if_false] at hy; exact hy
  | _ => exact hy

theorem rd_again {t : Nat} {x : AV} (hx : look σ.tmps t = some x) (T : TypeId) (y : Operand) : ASt.rd C { σ with tmps := ins t x σ.tmps } T y = σ.rd C T y := by
  cases y <;> try rfl
  rename_i i
  simp only [ASt.rd, look_ins]
  by_cases e : i = t
  · subst e; rw [if_pos rfl, hx]
  · rw [if_neg e]
def yieldOf : Value → Option Bool
  | .bool b => some b
  | _ => none
theorem yielded_eq {ops : Array Oper} {j t : Nat} {v : Value} (ht : (ops[j]?).bind (·.dst) = some t) (hv : a.tmps[t]? = some v) : yielded ops a.tmps j = yieldOf v := by
  unfold yielded yieldOf
  have e : ((ops[j]?).bind (·.dst)).bind (a.tmps[·]?) = some v := by rw [ht]; exact hv
  rw [e]
  cases v <;> rfl

theorem step_ok (hC : F.C = C) (hok : CfgOk C) {ops : Array Oper} {o : Oper} (hlk : ∀ τ : ASt, (∀ T y, τ.rd C T y = σ.rd C T y) → OkLk F τ o) (h : RI F I own σ a w) (hw : (stepR C ops.toList σ o).wp C K) :
    (Region.wanted o (yielded ops a.tmps) = true → o.wp C.P a w (Post F K) Q) ∧ (Region.wanted o (yielded ops a.tmps) = false → Post F K (a.put o.dst undef) w) := by
  unfold stepR at hw
  cases hg : o.guard with
  | none =>
    rw [hg] at hw
    refine ⟨fun _ => op_ok hC hok (hlk σ fun _ _ => rfl) h hw, fun e => ?_⟩
    simp [Region.wanted, hg] at e
  | some p =>
    obtain ⟨j, want⟩ := p
    rw [hg] at hw
    simp only at hw
    rw [Array.getElem?_toList] at hw
    have hwd : Region.wanted o (yielded ops a.tmps) = (yielded ops a.tmps j == some want) := by simp [Region.wanted, hg]
    rw [hwd]
    cases ht : (ops[j]?).bind (·.dst) with
    | none => rw [ht] at hw; exact hw.elim
    | some t =>
      rw [ht] at hw
      simp only [grdT] at hw
      cases hl : look σ.tmps t with
      | none => rw [hl] at hw; exact hw.elim
      | some y =>
        rw [hl] at hw
        obtain ⟨v, hv, hr⟩ := h.slots (.tmp t) y hl
        simp only [conc] at hv
        rw [yielded_eq ht hv]
        cases y <;> simp only [grdO] at hw <;> try exact hw.elim
        case undef =>
          have : v = undef := hr
          subst this
          exact ⟨fun e => by simp [yieldOf, undef] at e, fun _ => wr_ok hC h hw (fun _ _ _ e => by cases e) rfl⟩
        case bool b =>
          have e := ar_bool ((srep_imm rfl).1 hr)
          subst e
          simp only [yieldOf]
          obtain ⟨h1, h2⟩ := hw
          refine ⟨fun e => ?_, fun e => ?_⟩
          · obtain rfl : b = want := by simpa using e
            exact op_ok hC hok (hlk _ (rd_again hl)) (h.again hl) (h1 (by simp))
          · have hne : b = !want := by cases b <;> cases want <;> simp_all
            have hl' := hl
            rw [hne] at hl'
            exact wr_ok hC (h.again hl') (h2 e) (fun _ _ _ e => by cases e) rfl

theorem aops_ok (hC : F.C = C) (hok : CfgOk C) (hlk : F.open) (hsp : F.spo) {ops : Array Oper} {Kf : ASt → Prop} (hQ : ∀ a w, Post F Kf a w → Q .normal a w) : ∀ (r : List Oper) (σ : ASt) (I : Imm) (own : Nat → Option Loc) (a : Act) (w : World), RI F I own σ a w →
    aops C ops.toList Kf r σ → wpList C.P ops Q r a w
  | [], σ, I, own, a, w, h, hw => hQ a w ⟨I, own, σ, h, hw⟩
  | o :: r, σ, I, own, a, w, h, hw => by
    have hs := step_ok (Q := Q) hC hok (fun τ _ => OkLk.of_open hlk hsp τ o) h (show (stepR C ops.toList σ o).wp C (aops C ops.toList Kf r) from hw)
    have next : ∀ a w, Post F (aops C ops.toList Kf r) a w → wpList C.P ops Q r a w := fun a w ⟨J, own', τ, h1, h2⟩ => aops_ok hC hok hlk hsp hQ r τ J own' a w h1 h2
    unfold wpList
    split
    · rename_i hwd
      exact .inl (Oper.wp_mono next (hs.1 hwd))
    · rename_i hwd
      exact next _ _ (hs.2 (by simpa using hwd))

end
end Go.Proofs.Ytmngjlgeojbghaa.VA
end
section
namespace Go.Proofs.Ytmngjlgeojbghaa.VA
section
variable {F : Fx} {I : Imm} {own : Nat → Option Loc} {σ : ASt} {a : Act} {w w' : World} {C : Cfg} {K : ASt → Prop} {Q : Exit → Act → World → Prop}

theorem elt_okQ {x : AV} {i off : Nat} {u : Value} {sz : Nat} {es : List AV} (hne : ∀ l i' off', AV.elt x i off ≠ .elt (.ref l) i' off') (hu : RV F I own σ a w (.elt x i off) u) (hc : σ.cont x = some (sz, es)) :
    (∃ b o, u = .pointer (some ⟨b, o + i * sz + off, none⟩) ∧ ∀ (i : Nat) e, es[i]? = some e → ∃ v, AR F.mo I e v ∧ v.cells.size = sz ∧ ∀ (j : Nat) c, v.cells[j]? = some c → I b (o + (i * sz + j)) = some c) ∨ es = [] := by
  cases x with
  | sl fr sz' es' =>
    simp only [ASt.cont, AV.elemsOf, Option.some.injEq, Prod.mk.injEq] at hc
    obtain ⟨rfl, rfl⟩ := hc
    obtain ⟨b, o, n, cap, h1, h2⟩ := hu
    cases h1 with
    | slnil => exact .inr rfl
    | sl _ _ _ _ _ _ _ hn hc vs hv hz hI =>
      refine .inl ⟨b, o, h2, fun i e he => ?_⟩
      have hi := (List.getElem?_eq_some_iff.1 he).1
      exact ⟨vs i, hv i e he, hz i hi, fun j c hj => by rw [← Nat.add_assoc]; exact hI i j c hi hj⟩
  | ref l => exact absurd rfl (hne l i off)
  | own => exact hu.elim
  | _ => simp [ASt.cont, AV.elemsOf] at hc

theorem op_loadQ (hC : F.C = C) (hok : CfgOk C) (h : RI F I own σ a w) {dst : Option Tmp} {T ty : TypeId} {x : Operand} {pos : String} {after : Array Edge} {g : Option (Nat × Bool)}
    (hlk : ∀ k off, σ.rd C 0 x = .var k off → F.lv k = true)
    (hne : ∀ l i off, σ.rd C 0 x ≠ .elt (.ref l) i off) (hw : (opR C σ dst ty (.load T x)).wp C K) : Quiet F I C.P ⟨dst, .load T x, ty, pos, after, g⟩ a w (Post F K) := by
  have hx := rd_ok h C 0 x
  simp only [opR] at hw
  generalize σ.rd C 0 x = y at hx hw hne hlk
  cases y <;> simp only [loadR] at hw <;> try exact hw.elim
  case var k off =>
    have hchk := chk_ok hw
    clear hw
    obtain ⟨hkn, hw⟩ := hchk
    have hfit := hok.fit T hkn
    cases hk : look σ.vars k with
    | none => rw [hk] at hw; exact hw.elim
    | some cs =>
      rw [hk] at hw
      obtain ⟨b, hb, hv⟩ := hx cs hk
      obtain ⟨b', hb1, hb2, hb3, hb4⟩ := h.boxes k cs hk
      rw [hb] at hb1
      obtain rfl : b = b' := by cases hb1; rfl
      have hbl := h.lk.all k (hlk k off rfl) cs b hk hb
      have hcl : ∀ w2, Later F I w2 → ∀ o, w2.cell? ⟨b, o, none⟩ = w.cell? ⟨b, o, none⟩ := fun w2 hl2 o => World.cell?_of_block ((hl2.2 b hbl).trans (h.lk.stay b hbl).1.symm)
      have hconc : ∀ j, conc a w (.cell k j) = w.cell? ⟨b, j, none⟩ := fun j => by simp only [conc, hb, cellOf]
      simp only [VA.loadVar] at hw
      cases hag : (C.ti T).kind.isAgg with
      | true =>
        rw [if_pos hag] at hw
        have hchk := chk_ok hw
        clear hw
        obtain ⟨h1, hw⟩ := hchk
        simp only [Bool.and_eq_true, decide_eq_true_eq] at h1
        obtain ⟨h1, h2⟩ := h1
        generalize hn : (C.ti T).size = n at *
        have hcell : ∀ j, j < n → ∃ v, w.cell? ⟨b, off + j, none⟩ = some v ∧ v.oneCell' = true := fun j hj => by
          obtain ⟨v, v1, v2, _⟩ := hb4 (off + j) (by omega)
          exact ⟨v, v1, v2⟩
        obtain ⟨vals, hvl, hvals⟩ : ∃ vals : List Value, vals.length = n ∧ ∀ j, j < n → vals[j]? = w.cell? ⟨b, off + j, none⟩ := by
          refine ⟨(List.range n).map fun j => (w.cell? ⟨b, off + j, none⟩).getD undef, by simp, fun j hj => ?_⟩
          obtain ⟨v, v1, _⟩ := hcell j hj
          simp [hj, v1]
        have hrun : ∀ w2, Later F I w2 → (Go.loadVar T ⟨b, off, none⟩).run C.P w2 = .ok (.agg vals.toArray) w2 := by
          intro w2 hl2
          refine loadVar_agg (by rw [fit_isAgg hfit w2, hag]) (by rw [fit_sizeOf hfit w2, hn]) vals hvl fun j v hj => ?_
          have hjl := (List.getElem?_eq_some_iff.1 hj).1
          rw [Addr.add_lit, hcl w2 hl2, ← hvals j (by omega)]; exact hj
        refine by_q (v := .agg vals.toArray) (fun w2 hl2 => by simp [execOp, run_loadAt hv (hrun w2 hl2)]) ?_
        obtain ⟨J, j1, j2⟩ := markCells h hk off n h1
        refine wr_rv hC j2 hw (AR.agg _ _ (by simp [hvl]; omega) (fun j v hj => ?_) fun j c v hj hv' => ?_)
        · simp only [List.getElem?_toArray] at hj
          have hjl := (List.getElem?_eq_some_iff.1 hj).1
          obtain ⟨v', v1, v2⟩ := hcell j (by omega)
          rw [hvals j (by omega), v1] at hj
          cases hj
          exact v2
        · simp only [List.getElem?_toArray] at hv'
          have hjl := (List.getElem?_eq_some_iff.1 hv').1
          have hjn : j < n := by omega
          have hcs : cs[off + j]? = some cs[off + j] := List.getElem?_eq_getElem (by omega)
          rw [List.getElem?_map, List.getElem?_take_of_lt hjn, List.getElem?_drop, hcs] at hj
          simp only [Option.map_some, Option.some.injEq] at hj
          subst hj
          have hat : ASt.at { σ with vars := ins k (markFrom cs off n) σ.vars } (.cell k (off + j)) = some cs[off + j].mark := by
            simp only [ASt.at, look_ins, if_true, cellAt, markFrom_get cs off n (off + j) h1]
            rw [if_pos (by omega), hcs]; rfl
          obtain ⟨v2, e1, e2⟩ := j2.slots _ _ hat
          rw [hconc, ← hvals j hjn, hv'] at e1
          cases e1
          have him : cs[off + j].frz.isImm = true := by
            have := List.all_eq_true.1 h2 cs[off + j] (by
              refine List.mem_of_getElem? (i := j) ?_
              rw [List.getElem?_take_of_lt hjn, List.getElem?_drop, hcs])
            exact this
          have hmf : cs[off + j].mark.frz = cs[off + j].frz := by cases cs[off + j] <;> rfl
          have hmm : cs[off + j].mark.mark = cs[off + j].mark := by cases cs[off + j] <;> rfl
          have := frz_ar j2 e2 hmm (by rw [hmf]; exact him)
          rw [hmf] at this
          exact this
      | false =>
        rw [if_neg (by rw [hag]; simp)] at hw
        cases hcs : cs[off]? with
        | none => rw [hcs] at hw; exact hw.elim
        | some y =>
          rw [hcs] at hw
          have hat : σ.at (.cell k off) = some y := by simp only [ASt.at, hk, cellAt]; exact hcs
          obtain ⟨v, e1, e2⟩ := h.slots _ _ hat
          rw [hconc] at e1
          have hrun : ∀ w2, Later F I w2 → (Go.loadVar T ⟨b, off, none⟩).run C.P w2 = .ok v w2 := fun w2 hl2 => loadVar_one (by rw [fit_isAgg hfit w2, hag]) (by rw [hcl w2 hl2]; exact e1)
          refine by_q (v := v) (fun w2 hl2 => by simp [execOp, run_loadAt hv (hrun w2 hl2)]) ?_
          have him : y.isImm = true → (σ.wr C dst y).wp C K → Post F K (a.put dst v) w := fun hi hw => wr_rv hC h hw ((rv_imm hi).2 ((srep_imm hi).1 e2))
          have imm : (R.chk y.isImm (σ.wr C dst y)).wp C K → Post F K (a.put dst v) w := fun hw => by
            obtain ⟨h1, h2⟩ := chk_ok hw
            exact him h1 h2
          cases y with
          | own sh sz es =>
            refine wr_rv hC h hw ?_
            intro sh' sz' es' _
            rw [hconc]; exact e1
          | _ => exact imm hw
  case elt y i off =>
    have hchk := chk_ok hw
    clear hw
    obtain ⟨hkn, hw⟩ := hchk
    have hfit := hok.fit T hkn
    cases hc : σ.cont y with
    | none => rw [hc] at hw; exact hw.elim
    | some q =>
      obtain ⟨sz, es⟩ := q
      rw [hc] at hw
      simp only [loadElt] at hw
      have hyo : ∀ sh sz es, y ≠ .own sh sz es := by
        rintro sh sz es rfl
        exact hx.elim
      cases he : es[i]? with
      | none => rw [he] at hw; exact hw.elim
      | some e =>
        rw [he] at hw
        rcases elt_okQ hne hx hc with ⟨b, o, hv, hlies⟩ | rfl
        case inr => simp at he
        obtain ⟨u, hu1, hu2, hu3'⟩ := hlies i e he
        have hu3 : ∀ w2, Later F I w2 → ∀ (j : Nat) c, u.cells[j]? = some c → w2.cell? ⟨b, o + (i * sz + j), none⟩ = some c := fun w2 hl2 j c hj => hl2.1 _ _ _ (hu3' j c hj)
        simp only [loadElem] at hw
        cases hag : (C.ti T).kind.isAgg with
        | true =>
          rw [if_pos hag] at hw
          by_cases hwh : (decide (off = 0) && decide ((C.ti T).size = sz)) = true
          · rw [if_pos hwh] at hw
            simp only [Bool.and_eq_true, decide_eq_true_eq] at hwh
            obtain ⟨rfl, hs⟩ := hwh
            have hchk := chk_ok hw
            clear hw
            obtain ⟨hagg, hw⟩ := hchk
            obtain ⟨cs, rfl⟩ : ∃ cs, e = .agg cs := by cases e <;> first | exact ⟨_, rfl⟩ | cases hagg
            cases hu1 with
            | agg _ vs hl h1 hh =>
              have hrun : ∀ w2, Later F I w2 → (Go.loadVar T ⟨b, o + i * sz, none⟩).run C.P w2 = .ok (.agg vs.toList.toArray) w2 := by
                intro w2 hl2
                refine loadVar_agg (by rw [fit_isAgg hfit w2, hag]) (by rw [fit_sizeOf hfit w2, hs]) vs.toList (by rw [Array.length_toList]; exact hu2) fun j v hj => ?_
                rw [Addr.add_lit, Nat.add_assoc]
                exact hu3 w2 hl2 j v (by simpa [Value.cells] using hj)
              refine by_q (v := .agg vs) (fun w2 hl2 => by simp [execOp, run_loadAt hv (hrun w2 hl2)]) ?_
              exact wrImm_ok hC h hw fun y hy => by cases hy; exact .agg _ vs hl h1 hh
          · rw [if_neg hwh] at hw
            cases e <;> simp only [aggPart] at hw <;> try exact hw.elim
            rename_i cs
            by_cases hle : off + (C.ti T).size ≤ cs.length
            case neg => rw [if_neg hle] at hw; exact hw.elim
            rw [if_pos hle] at hw
            generalize hn : (C.ti T).size = n at *
            cases hu1 with
            | agg _ vs hl h1 hh =>
              have hrun : ∀ w2, Later F I w2 → (Go.loadVar T ⟨b, o + i * sz + off, none⟩).run C.P w2 = .ok (.agg ((vs.toList.drop off).take n).toArray) w2 := by
                intro w2 hl2
                refine loadVar_agg (by rw [fit_isAgg hfit w2, hag]) (by rw [fit_sizeOf hfit w2, hn]) ((vs.toList.drop off).take n) (by simp; omega) fun j v hj => ?_
                have hjl : j < n := by
                  have := (List.getElem?_eq_some_iff.1 hj).1
                  simp at this; omega
                rw [List.getElem?_take_of_lt hjl, List.getElem?_drop] at hj
                rw [Addr.add_lit, show o + i * sz + off + j = o + (i * sz + (off + j)) by omega]
                exact hu3 w2 hl2 (off + j) v (by simpa [Value.cells] using hj)
              refine by_q (v := .agg ((vs.toList.drop off).take n).toArray) (fun w2 hl2 => by simp [execOp, run_loadAt hv (hrun w2 hl2)]) ?_
              refine wrImm_ok hC h hw fun y hy => ?_
              cases hy
              refine .agg _ _ (by simp; omega) (fun j v hj => ?_) fun j c v hj hv' => ?_
              · simp only [List.getElem?_toArray] at hj
                have hjl : j < n := by
                  have := (List.getElem?_eq_some_iff.1 hj).1
                  simp at this; omega
                rw [List.getElem?_take_of_lt hjl, List.getElem?_drop] at hj
                exact h1 (off + j) v (by simpa using hj)
              · simp only [List.getElem?_toArray] at hv'
                have hjl : j < n := by
                  have := (List.getElem?_eq_some_iff.1 hv').1
                  simp at this; omega
                rw [List.getElem?_take_of_lt hjl, List.getElem?_drop] at hj hv'
                exact hh (off + j) c v hj (by simpa using hv')
        | false =>
          rw [if_neg (by rw [hag]; simp)] at hw
          cases hf : e.flat[off]? with
          | none => rw [hf] at hw; exact hw.elim
          | some y =>
            rw [hf] at hw
            have hol : off < u.cells.size := by
              rw [← hu1.flen]; exact (List.getElem?_eq_some_iff.1 hf).1
            have hcu := Array.getElem?_eq_getElem hol
            have hrun : ∀ w2, Later F I w2 → (Go.loadVar T ⟨b, o + i * sz + off, none⟩).run C.P w2 = .ok u.cells[off] w2 := fun w2 hl2 => loadVar_one (by rw [fit_isAgg hfit w2, hag]) (by rw [Nat.add_assoc]; exact hu3 w2 hl2 off _ hcu)
            refine by_q (v := u.cells[off]) (fun w2 hl2 => by simp [execOp, run_loadAt hv (hrun w2 hl2)]) ?_
            exact wrImm_ok hC h hw fun y' hy => by cases hy; exact hu1.fcell off _ _ hf hcu


theorem op_convertQ (hC : F.C = C) (hok : CfgOk C) (h : RI F I own σ a w) {dst : Option Tmp} {S T ty : TypeId} {x : Operand} {pos : String} {after : Array Edge} {g : Option (Nat × Bool)}
    (hcq : convQ (C.ti S).kind (C.ti T).kind = true) (hw : (opR C σ dst ty (.convert S T x)).wp C K) : Quiet F I C.P ⟨dst, .convert S T x, ty, pos, after, g⟩ a w (Post F K) := by
  have hx := rd_ok h C S x
  simp only [opR] at hw
  generalize σ.rd C S x = X at hx hw
  generalize hq : (C.ti S).kind = ks at hw hcq
  generalize hq' : (C.ti T).kind = kt at hw hcq
  unfold convR at hw
  split at hw
  · rename_i k1 k k2 n
    have e := ar_int ((rv_imm rfl).1 hx)
    have hS := (hok.fit S (by rw [hq]; rfl)).kind
    have hT := (hok.fit T (by rw [hq']; rfl)).kind
    rw [hq] at hS
    rw [hq'] at hT
    refine by_q (v := .int k (k.wrap n)) (fun w2 hl2 => ?_) (wr_int hC h hw)
    simp [execOp, convert, run_underlying (show C.P.underlying S = some (.int k1) from hS), run_underlying (show C.P.underlying T = some (.int k) from hT), e, Conv.intToInt]
  · rename_i s
    have e := ar_str ((rv_imm rfl).1 hx)
    have hS := (hok.fit S (by rw [hq]; rfl)).kind
    have hT := (hok.fit T (by rw [hq']; rfl)).kind
    rw [hq] at hS
    rw [hq'] at hT
    refine by_q (v := .string ⟨s.toArray⟩) (fun w2 hl2 => ?_) (wr_str hC h hw)
    simp [execOp, convert, run_underlying (show C.P.underlying S = some .string from hS), run_underlying (show C.P.underlying T = some .string from hT), e]
  · cases hcq
  · cases hcq
  · exact hw.elim

end
end Go.Proofs.Ytmngjlgeojbghaa.VA
end
section
namespace Go.Proofs.Ytmngjlgeojbghaa.VA
section
variable {F F' : Fx} {I : Imm} {own : Nat → Option Loc} {σ : ASt} {a : Act} {w w' : World}

theorem Row.mono {M N : Nat → Prop} {g : Nat} {sh : Bool} {sz cap : Nat} {es : List AV} (h : Row M I w g sh sz es cap) (hM : ∀ b, M b → N b) : Row N I w g sh sz es cap :=
  h.keep hM (Imm.leRefl I) (fun _ h => h) (fun _ => rfl) (fun _ => rfl)
theorem SRep.mono (hM : ∀ b, F.mo b → F'.mo b) {l : Loc} {x : AV} {v : Value} (h : SRep F I own σ a w l x v) : SRep F' I own σ a w l x v := by
  have him : x.isImm = true → SRep F' I own σ a w l x v := fun hx => (srep_imm hx).2 (((srep_imm hx).1 h).mono hM (Imm.leRefl I))
  cases x with
  | bot => trivial
  | undef => exact h
  | own sh sz es =>
    rcases h with h | ⟨g, cap, h1, h2, h3⟩
    · exact .inl h
    · exact .inr ⟨g, cap, h1, h2, h3.mono hM⟩
  | ref l' => exact h
  | var k off => exact h
  | elt y i off =>
    cases y with
    | ref l' => exact h
    | sl fr sz es =>
      obtain ⟨b, o, n, cap, h1, h2⟩ := h
      exact ⟨b, o, n, cap, h1.mono hM (Imm.leRefl I), h2⟩
    | _ => exact h.elim
  | tup vs => exact h
  | bool => exact him rfl
  | int => exact him rfl
  | str => exact him rfl
  | fn => exact him rfl
  | nilf => exact him rfl
  | agg => exact him rfl
  | sl => exact him rfl
  | ext => exact him rfl
  | hd => exact him rfl

/-- F' begins later than F, within it. -/
structure Based (F F' : Fx) : Prop where
  cfg : F'.C = F.C
  mine : ∀ b, F'.mine b → F.mine b
  mko : ∀ b, F.mine b → F.mo b
  mo : F'.mo = F.mo
  le : Imm.le F.I0 F'.I0
  inew : ∀ b o v, F'.I0 b o = some v → F.I0 b o = some v ∨ F.mine b
  fr : Fr F.w0 F'.w0 F.S
  ds : F'.ds = F.ds
  a0 : F'.a0 = F.a0
theorem Based.refl (F : Fx) (h : ∀ b, F.mine b → F.mo b) : Based F F := ⟨rfl, fun _ h => h, h, rfl, Imm.leRefl _, fun _ _ _ h => .inl h, fr_refl _ _, rfl, rfl⟩

/-- The same state, seen from here on. -/
def Fx.at (F : Fx) (w : World) (I : Imm) (lv : Nat → Bool) (lk : Nat → Prop) : Fx := ⟨F.C, w, I, F.mine, lv, lk, F.ds, F.a0, F.mo⟩
theorem RI.rebase (h : RI F I own σ a w) {lv : Nat → Bool} {lk : Nat → Prop} (hl : ∀ b, lk b → ∃ k, own b = some (.box k) ∧ lv k = true) (ha : ∀ k, lv k = true → ∀ cs b, look σ.vars k = some cs → a.tmps[k]? = some (.pointer (some ⟨b, 0, none⟩)) → lk b) :
    RI (F.at w I lv lk) I own σ a w ∧ Based F (F.at w I lv lk) := by
  have hM : ∀ b, F.mine b → (F.at w I lv lk).mine b := fun b hb => .inr hb
  refine ⟨{
    st := h.st
    imm := h.imm
    base := Imm.leRefl I
    inew := fun b o v hb => .inl hb
    fr := fr_refl _ _
    mko := fun b hm => h.mko b (by
      rcases hm with e | e
      · exact .inl (Nat.le_trans h.fr.size e)
      · exact e)
    mine := fun b l hb => ⟨hM b (h.mine b l hb).1, (h.mine b l hb).2⟩
    defs := h.defs
    size := h.size
    slots := fun l x hx => by
      obtain ⟨v, h1, h2⟩ := h.slots l x hx
      exact ⟨v, h1, h2.mono fun b (hb : F.mo b) => hb⟩
    boxes := h.boxes
    quiet := h.quiet
    lk := ⟨fun b hb => ⟨rfl, hl b hb⟩, ha⟩ }, ⟨rfl, fun b hb => ?_, h.mko, rfl, h.base, h.inew, h.fr, rfl, rfl⟩⟩
  rcases hb with hb | hb
  · exact .inl (Nat.le_trans h.fr.size hb)
  · exact hb
/-- .. and back. -/
theorem RI.back (hB : Based F F') (hF : F.open) (h : RI F' I own σ a w) : RI F I own σ a w where
  st := by rw [← hB.cfg]; exact h.st
  imm := h.imm
  base := hB.le.trans h.base
  inew b o v hb := by
    rcases h.inew b o v hb with e | e
    · exact hB.inew b o v e
    · exact .inr (hB.mine b e)
  fr := by
    refine ⟨h.fr.os.trans hB.fr.os, h.fr.tape.trans hB.fr.tape, h.fr.output.trans hB.fr.output, Nat.le_trans hB.fr.size h.fr.size, fun k hk hp => ?_, (fr_trans (p := fun _ => True) ⟨hB.fr.os, hB.fr.tape, hB.fr.output, hB.fr.size, fun _ _ h => (h trivial).elim, hB.fr.new⟩ h.fr.os h.fr.tape h.fr.output h.fr.size (fun _ _ h => (h trivial).elim) h.fr.new).new⟩
    rw [h.fr.block k (Nat.lt_of_lt_of_le hk hB.fr.size) fun e => ?_]
    · exact hB.fr.block k hk hp
    · rcases hB.mine k (.inr e) with e2 | e2
      · omega
      · exact hp e2
  mko := hB.mko
  mine b l hb := ⟨hB.mine b (h.mine b l hb).1, (h.mine b l hb).2⟩
  defs := by rw [← hB.ds, ← hB.a0, ← hB.cfg]; exact h.defs
  size := by rw [h.size, hB.cfg]
  slots l x hx := by
    obtain ⟨v, h1, h2⟩ := h.slots l x hx
    exact ⟨v, h1, h2.mono fun b (hb : F'.mo b) => by rw [← hB.mo]; exact hb⟩
  boxes := h.boxes
  quiet := h.quiet
  lk := ⟨fun b hb => (hF.2 b hb).elim, fun k e => by rw [hF.1] at e; cases e⟩
theorem Based.trans {F1 F2 F3 : Fx} (h : Based F1 F2) (k : Based F2 F3) : Based F1 F3 := by
  refine ⟨k.cfg.trans h.cfg, fun b hb => h.mine b (k.mine b hb), h.mko, k.mo.trans h.mo, h.le.trans k.le, fun b o v hb => ?_, ?_, k.ds.trans h.ds, k.a0.trans h.a0⟩
  · rcases k.inew b o v hb with e | e
    · exact h.inew b o v e
    · exact .inr (h.mine b e)
  · refine ⟨k.fr.os.trans h.fr.os, k.fr.tape.trans h.fr.tape, k.fr.output.trans h.fr.output, Nat.le_trans h.fr.size k.fr.size, fun j hj hp => ?_, (fr_trans (p := fun _ => True) ⟨h.fr.os, h.fr.tape, h.fr.output, h.fr.size, fun _ _ h => (h trivial).elim, h.fr.new⟩ k.fr.os k.fr.tape k.fr.output k.fr.size (fun _ _ h => (h trivial).elim) k.fr.new).new⟩
    rw [k.fr.block j (Nat.lt_of_lt_of_le hj h.fr.size) fun e => ?_]
    · exact h.fr.block j hj hp
    · rcases h.mine j (.inr e) with e2 | e2
      · omega
      · exact hp e2
end
end Go.Proofs.Ytmngjlgeojbghaa.VA
end
section
namespace Go.Proofs.Ytmngjlgeojbghaa.VA
section
variable {P : Program} {ops : Array Oper} {Q : Exit → Act → World → Prop}

/-- Whatever order comes from here on; what never changes any more grows; S0 holds as long as no operation of B has come. -/
def Held (P : Program) (ops : Array Oper) (Q : Exit → Act → World → Prop) (B : List Nat) (S0 : World → Prop) : Nat → Array Bool → Imm → Act → World → Prop
  | 0, listed, _, a, w => Region.ready .any ops listed = [] ∧ Q .normal a w
  | n + 1, listed, I, a, w => (Region.ready .any ops listed = [] → Q .normal a w) ∧
    ∀ i ∈ Region.ready .any ops listed, wpOp P ops Q i (fun a' w' => ∃ J, (Imm.le I J ∧ Imm.ok J w' ∧ ((S0 w → S0 w') ∨ B.contains i = true)) ∧ Held P ops Q B S0 n (listed.setIfInBounds i true) J a' w') a w

theorem Held.any {B : List Nat} {S0 : World → Prop} : ∀ (n : Nat) (listed : Array Bool) (I : Imm) (a : Act) (w : World), Held P ops Q B S0 n listed I a w → wpAny P .any ops Q n listed a w
  | 0, _, _, _, _, h => h
  | n + 1, _, _, _, _, h => ⟨h.1, fun i hi => wpOp_mono (fun a' w' h' => by obtain ⟨J, _, h2⟩ := h'; exact Held.any n _ J a' w' h2) (h.2 i hi)⟩

/-- A quiet operation that may come now may be taken first. -/
theorem Held.first {B : List Nat} {S0 : World → Prop} {i : Nat} {oi : Oper} {v : Value} (hi : ops[i]? = some oi) (hsel : ∀ (j : Nat) (o : Oper) cs b, ops[j]? = some o → o.op ≠ .select cs b)
    (hQ : ∀ c a w, Q (.panic c) (a.put oi.dst v) w → Q (.panic c) a w) {S1 : World → Prop} (hB : (∀ w, S1 w) ∨ ((∀ w, S0 w ↔ S1 w) ∧ ∀ j oj, B.contains j = true → ops[j]? = some oj → ∃ e ∈ oj.after, Region.binds .any e = true ∧ e.on = i)) :
    ∀ (n : Nat) (listed : Array Bool) (I : Imm) (a : Act) (w : World),
      (∀ j oj, ops[j]? = some oj → j ≠ i → listed.getD j true = false → (∀ e ∈ oj.after, Region.binds .any e = true → e.on ≠ i) → oi.apart ops oj = true) →
      i ∈ Region.ready .any ops listed → YieldsIf P ops (fun w => Imm.ok I w ∧ S1 w) oi v a → Imm.ok I w → S1 w →
      Held P ops Q B S0 n (listed.setIfInBounds i true) I (a.put oi.dst v) w → Held P ops Q B S0 (n + 1) listed I a w := by
  intro n
  induction n with
  | zero =>
    intro listed I a w _ hr hy hI hS H
    refine ⟨fun h => (by rw [h] at hr; cases hr), fun j hj => ?_⟩
    by_cases hji : j = i
    · subst hji
      exact hy.wpOp hi ⟨hI, hS⟩ ⟨I, ⟨Imm.leRefl I, hI, .inl id⟩, H⟩
    · have := ready_mono hj hji
      rw [H.1] at this
      cases this
  | succ n ih =>
    intro listed I a w hfree hr hy hI hS H
    refine ⟨fun h => (by rw [h] at hr; cases hr), fun j hj => ?_⟩
    by_cases hji : j = i
    · subst hji
      exact hy.wpOp hi ⟨hI, hS⟩ ⟨I, ⟨Imm.leRefl I, hI, .inl id⟩, H⟩
    · have h1 := H.2 j (ready_mono hj hji)
      obtain ⟨hjun, oj, hoj, hall⟩ := mem_ready.1 hj
      have hnot : ∀ e ∈ oj.after, Region.binds .any e = true → e.on ≠ i := fun e he hb heq => by
        have h1 := hall e he hb
        have h0 := (mem_ready.1 hr).1
        rw [heq] at h1
        rcases Nat.lt_or_ge i listed.size with h' | h'
        · simp [h'] at h0 h1; rw [h0] at h1; cases h1
        · simp [Array.getElem?_eq_none h'] at h1
      have hjB : (∀ w, S1 w) ∨ B.contains j = false := by
        rcases hB with hB | ⟨_, hB⟩
        · exact .inl hB
        · cases hc : B.contains j with
          | false => exact .inr rfl
          | true =>
            obtain ⟨e, he, hb, heq⟩ := hB j oj hc hoj
            exact (hnot e he hb heq).elim
      have h2 := wpOp_putIf hoj (hfree j oj hoj hji hjun hnot) (fun cs b => hsel i oi cs b hi) (fun cs b => hsel j oj cs b hoj) hQ hy h1
      have hfree' : ∀ k ok, ops[k]? = some ok → k ≠ i → (listed.setIfInBounds j true).getD k true = false →
          (∀ e ∈ ok.after, Region.binds .any e = true → e.on ≠ i) → oi.apart ops ok = true := fun k ok hk hki hun hno => by
        refine hfree k ok hk hki ?_ hno
        by_cases hjk : j = k
        · subst hjk; exact hjun
        · rw [getD_set_ne true hjk] at hun; exact hun
      refine wpOp_mono (fun a' w' h3 => ?_) h2
      obtain ⟨hy', J, ⟨c1, c2, c3⟩, hH⟩ := h3
      have hS1 : S1 w' := by
        rcases hjB with h | h
        · exact h w'
        · rcases hB with hB | ⟨hB, _⟩
          · exact hB w'
          · rcases c3 with c3 | c3
            · exact (hB w').1 (c3 ((hB w).2 hS))
            · rw [h] at c3; cases c3
      have hyJ : YieldsIf P ops (fun w => Imm.ok J w ∧ S1 w) oi v a' :=
        hy'.imp (fun ⟨p, q⟩ => ⟨p, fun w2 hw2 => q w2 ⟨fun b o u hb => hw2.1 b o u (c1 b o u hb), hw2.2⟩⟩) id
      refine ⟨J, ⟨c1, c2, c3⟩, ih (listed.setIfInBounds j true) J a' w' hfree' (ready_mono hr (Ne.symm hji)) hyJ c2 hS1 ?_⟩
      rw [Array.setIfInBounds_comm _ _ hji]
      exact hH
end
end Go.Proofs.Ytmngjlgeojbghaa.VA
end
section
namespace Go.Proofs.Ytmngjlgeojbghaa.VA

section
variable {F : Fx} {I : Imm} {own : Nat → Option Loc} {σ : ASt} {a : Act} {w w' : World} {C : Cfg} {K : ASt → Prop} {Q : Exit → Act → World → Prop}

theorem quiet_op (hC : F.C = C) (hok : CfgOk C) (h : RI F I own σ a w) {o : Oper} {ns : List Nat} (hlk : pureOp o.op = true ∨ ∀ k, ns.contains k = false → F.lv k = true) (hq : quietOp C ns σ o.op = true) (hw : (opR C σ o.dst o.type o.op).wp C K) : Quiet F I C.P o a w (Post F K) := by
  obtain ⟨dst, op, ty, pos, after, g⟩ := o
  simp only at hw hq
  cases op with
  | move x => exact op_move hC h hw
  | assign x => exact op_assign hC h hw
  | pick c x y => exact op_pick hC h hw
  | load T x =>
    refine op_loadQ hC hok h (fun k off e => ?_) (fun l i off e => ?_) hw
    · simp only [quietOp, e, quietLoad, Bool.not_eq_true'] at hq
      exact hlk.resolve_left (by simp [pureOp]) k hq
    · simp only [quietOp, e, quietLoad] at hq
      cases hq
  | binOp op T x y T2 => exact op_bin hC hok h hw
  | unOp op T x => exact op_un hC h hw
  | convert S T x => exact op_convertQ hC hok h hq hw
  | makeFunc fn first captured =>
    cases fn <;> simp only [opR] at hw <;> try exact hw.elim
    exact op_makeFunc hC h hw
  | slice T x lo hi mx =>
    cases mx with
    | none => exact op_slice hC hok h hw
    | some m => exact hw.elim
  | fieldAddr T x f => exact op_fieldAddr hC hok h hw
  | field T x f => exact op_field hC hok h hw
  | indexAddr T x ix => exact op_indexAddr hC hok h hw
  | index T x ix => exact op_index hC hok h hw
  | extract x i =>
    cases x <;> simp only [opR] at hw <;> try exact hw.elim
    exact op_extract hC h hw
  | call c =>
    cases hcl : c.callee with
    | builtin b =>
      simp only [quietOp, hcl] at hq
      cases b <;> simp only [quietCallee] at hq <;> first | exact op_len hC hok h hcl hw | exact op_max hC h hcl hw | cases hq
    | value x => simp only [quietOp, hcl, quietCallee] at hq; cases hq
    | invoke r n => simp only [quietOp, hcl, quietCallee] at hq; cases hq
  | _ => cases hq

theorem quietOp_again {ns : List Nat} {t : Nat} {x : AV} (hx : look σ.tmps t = some x) (o : Op) : quietOp C ns { σ with tmps := ins t x σ.tmps } o = quietOp C ns σ o := by
  cases o <;> try rfl
  case load T y => simp only [quietOp, rd_again hx]
  case makeFunc f x y => cases f <;> rfl
  case slice T x lo hi mx => cases mx <;> rfl
  case extract x i => cases x <;> rfl

theorem quiet_step (hC : F.C = C) (hok : CfgOk C) (h : RI F I own σ a w) {ops : Array Oper} {o : Oper} {ns : List Nat} (hlk : pureOp o.op = true ∨ ∀ k, ns.contains k = false → F.lv k = true) (hq : quietOp C ns σ o.op = true) (hw : (stepR C ops.toList σ o).wp C K) :
    ∃ v, YieldsIf C.P ops (Later F I) o v a ∧ Post F K (a.put o.dst v) w := by
  unfold stepR at hw
  cases hg : o.guard with
  | none =>
    rw [hg] at hw
    obtain ⟨v, h1, h2⟩ := quiet_op hC hok h hlk hq hw
    exact ⟨v, .inl ⟨by simp [Region.wanted, hg], h1⟩, h2⟩
  | some p =>
    obtain ⟨j, want⟩ := p
    rw [hg] at hw
    simp only at hw
    rw [Array.getElem?_toList] at hw
    have hwd : Region.wanted o (yielded ops a.tmps) = (yielded ops a.tmps j == some want) := by simp [Region.wanted, hg]
    cases ht : (ops[j]?).bind (·.dst) with
    | none => rw [ht] at hw; exact hw.elim
    | some t =>
      rw [ht] at hw
      simp only [grdT] at hw
      cases hl : look σ.tmps t with
      | none => rw [hl] at hw; exact hw.elim
      | some y =>
        rw [hl] at hw
        obtain ⟨v, hv, hr⟩ := h.slots (.tmp t) y hl
        simp only [conc] at hv
        rw [yielded_eq ht hv] at hwd
        cases y <;> simp only [grdO] at hw <;> try exact hw.elim
        case undef =>
          have : v = undef := hr
          subst this
          exact ⟨undef, .inr ⟨by rw [hwd]; simp [yieldOf, undef], rfl⟩, wr_ok hC h hw (fun _ _ _ e => by cases e) rfl⟩
        case bool b =>
          have e := ar_bool ((srep_imm rfl).1 hr)
          subst e
          simp only [yieldOf] at hwd
          obtain ⟨h1, h2⟩ := hw
          cases hb : (b == want) with
          | true =>
            obtain rfl : b = want := by simpa using hb
            obtain ⟨v, k1, k2⟩ := quiet_op hC hok (h.again hl) hlk (by rw [quietOp_again hl]; exact hq) (h1 hb)
            exact ⟨v, .inl ⟨by rw [hwd]; simp, k1⟩, k2⟩
          | false =>
            have hne : b = !want := by cases b <;> cases want <;> simp_all
            have hl' := hl
            rw [hne] at hl'
            exact ⟨undef, .inr ⟨by rw [hwd]; exact hb, rfl⟩, wr_ok hC (h.again hl') (h2 hb) (fun _ _ _ e => by cases e) rfl⟩

theorem Held.mono {P : Program} {ops : Array Oper} {B : List Nat} {S0 : World → Prop} {J : Imm} (hle : Imm.le I J) {n : Nat} {listed : Array Bool} (h : Held P ops Q B S0 n listed J a w) : Held P ops Q B S0 n listed I a w := by
  cases n with
  | zero => exact h
  | succ n =>
    refine ⟨h.1, fun i hi => wpOp_mono (fun a' w' h' => ?_) (h.2 i hi)⟩
    obtain ⟨J', ⟨c1, c2, c3⟩, hH⟩ := h'
    exact ⟨J', ⟨hle.trans c1, c2, c3⟩, hH⟩
/-- What looks at values alone yields its value in whatever world. -/
theorem pure_step (hC : F.C = C) (hok : CfgOk C) (h : RI F I own σ a w) {ops : Array Oper} {o : Oper} {ns : List Nat} (hp : pureOp o.op = true) (hq : quietOp C ns σ o.op = true) (hw : (stepR C ops.toList σ o).wp C K) :
    ∃ v, YieldsIf C.P ops (fun w => Imm.ok I w) o v a ∧ Post F K (a.put o.dst v) w := by
  obtain ⟨v, hy, hpost⟩ := quiet_step hC hok h (.inl hp) hq hw
  obtain ⟨h0, _⟩ := h.rebase (lv := fun _ => false) (lk := fun _ => False) (fun _ hb => hb.elim) (fun k e => by cases e)
  obtain ⟨v0, hy0, _⟩ := quiet_step (F := F.at w I (fun _ => false) (fun _ => False)) (K := K) hC hok h0 (.inl hp) hq hw
  refine ⟨v, ?_, hpost⟩
  have hL : Later F I w := ⟨h.imm, fun b hb => (h.lk.stay b hb).1⟩
  rcases hy with ⟨p, q⟩ | ⟨p, q⟩
  · rcases hy0 with ⟨_, q0⟩ | ⟨p0, _⟩
    · have e1 := q w hL
      have e2 := q0 w ⟨h.imm, fun b hb => hb.elim⟩
      rw [e1] at e2
      obtain rfl : v = v0 := by cases e2; rfl
      exact .inl ⟨p, fun w2 hw2 => q0 w2 ⟨hw2, fun b hb => hb.elim⟩⟩
    · rw [p] at p0; cases p0
  · exact .inr ⟨p, q⟩

theorem Held.done {P : Program} {ops : Array Oper} {B : List Nat} {S0 : World → Prop} {n : Nat} {listed : Array Bool} (hr : Region.ready .any ops listed = []) (h : Q .normal a w) : Held P ops Q B S0 n listed I a w := by
  cases n with
  | zero => exact ⟨hr, h⟩
  | succ n => exact ⟨fun _ => h, fun i hi => by rw [hr] at hi; cases hi⟩

def lvOf (ns : List Nat) (k : Nat) : Bool := !ns.contains k
theorem okLk_locked {ns : List Nat} {L : Nat → Prop} {o : Oper} (h : lockedOk o.op = true) (hm : madeB ns o = true) (hs : specO F.C o = false) (τ : ASt) : OkLk (F.at w I (lvOf ns) L) τ o := by
  obtain ⟨dst, op, ty, pos, after, g⟩ := o
  cases op <;> try trivial
  · intro d e
    obtain rfl : dst = some d := e
    simp only [madeB] at hm
    show lvOf ns d = false
    unfold lvOf; rw [hm]; rfl
  · intro d e
    obtain rfl : dst = some d := e
    simp only [madeB] at hm
    show lvOf ns d = false
    unfold lvOf; rw [hm]; rfl
  · rename_i c
    intro e
    have hs : specC F.C c.callee = false := hs
    have e : specC F.C c.callee = true := e
    rw [hs] at e; cases e
theorem ord_ok {F0 : Fx} (hF0 : F0.open) (hC0 : F0.C = C) (hok : CfgOk C) {ops : Array Oper} {B ns : List Nat} {W : World} {L : Nat → Prop} (hns : ops.toList.all (fun o => madeB ns o && !specO C o) = true) (hsel : Region.noSelect ops = true) (hK : ∀ a w, Post F0 K a w → Q .normal a w) (hQp : ∀ c a w, ¬ Q (.panic c) a w) :
    ∀ (t : Ord) (lk : Bool) (n : Nat) (listed : Array Bool) (σ : ASt) (I : Imm) (own : Nat → Option Loc) (F : Fx) (a : Act) (w : World), okOrd ops B lk listed t = true → t.depth ≤ n → Based F0 F →
      (lk = true → F.lv = lvOf ns ∧ F.lk = L ∧ ∀ b, L b → F.w0.heap[b]? = W.heap[b]?) → (lk = false → F.open) → RI F I own σ a w → aord C ops.toList ns K t σ → Held C.P ops Q B (fun w => ∀ b, L b → w.heap[b]? = W.heap[b]?) n listed I a w := by
  -- one operation that is carried out in its turn
  have one : ∀ (t : Ord) (lk : Bool) (n : Nat) (listed : Array Bool) (σ : ASt) (I : Imm) (own : Nat → Option Loc) (F : Fx) (a : Act) (w : World) (i : Nat), mayOne ops B lk i = true → Based F0 F →
      (lk = true → F.lv = lvOf ns ∧ F.lk = L ∧ ∀ b, L b → F.w0.heap[b]? = W.heap[b]?) → (lk = false → F.open) → RI F I own σ a w → aoo C ops.toList σ (aord C ops.toList ns K t) ops.toList[i]? →
      (∀ (σ : ASt) (J : Imm) (own : Nat → Option Loc) (F : Fx) (a : Act) (w : World), Based F0 F → (lk = true → F.lv = lvOf ns ∧ F.lk = L ∧ ∀ b, L b → F.w0.heap[b]? = W.heap[b]?) → (lk = false → F.open) → RI F J own σ a w → aord C ops.toList ns K t σ →
        Held C.P ops Q B (fun w => ∀ b, L b → w.heap[b]? = W.heap[b]?) n (listed.setIfInBounds i true) J a w) →
      wpOp C.P ops Q i (fun a' w' => ∃ J, (Imm.le I J ∧ Imm.ok J w' ∧ (((∀ b, L b → w.heap[b]? = W.heap[b]?) → ∀ b, L b → w'.heap[b]? = W.heap[b]?) ∨ B.contains i = true)) ∧ Held C.P ops Q B (fun w => ∀ b, L b → w.heap[b]? = W.heap[b]?) n (listed.setIfInBounds i true) J a' w') a w := by
    intro t lk n listed σ I own F a w i hm hB hl1 hl2 h ha ih
    rw [Array.getElem?_toList] at ha
    cases ho : ops[i]? with
    | none => rw [ho] at ha; exact ha.elim
    | some o =>
      rw [ho] at ha
      have hno : madeB ns o = true ∧ specO C o = false := by
        have := List.all_eq_true.1 hns o (by rw [← Array.getElem?_toList] at ho; exact List.mem_of_getElem? ho)
        simpa using this
      have fin : ∀ {F1 : Fx} {Kn : Act → World → Prop}, F1.C = C → (∀ τ, OkLk F1 τ o) → RI F1 I own σ a w → (∀ a' w', Post F1 (aord C ops.toList ns K t) a' w' → Kn a' w') → wpOp C.P ops Q i Kn a w := by
        intro F1 Kn hC1 hlk1 h1 hn
        have hs := step_ok (Q := Q) hC1 hok (fun τ _ => hlk1 τ) h1 (show (stepR C ops.toList σ o).wp C (aord C ops.toList ns K t) from ha)
        unfold wpOp
        rw [ho]
        simp only
        split
        · rename_i hwd
          exact .inl (Oper.wp_mono hn (hs.1 hwd))
        · rename_i hwd
          exact hn _ _ (hs.2 (by simpa using hwd))
      cases lk with
      | true =>
        obtain ⟨e1, e2, e3⟩ := hl1 rfl
        obtain ⟨h1, hB1⟩ := h.rebase (lv := lvOf ns) (lk := L) (fun b hb => by rw [← e1]; exact (h.lk.stay b (by rw [e2]; exact hb)).2) (fun k hk0 cs b hk hb => by rw [← e2]; exact h.lk.all k (by rw [e1]; exact hk0) cs b hk hb)
        have hW : ∀ b, L b → w.heap[b]? = W.heap[b]? := fun b hb => ((h.lk.stay b (by rw [e2]; exact hb)).1).trans (e3 b hb)
        have hlo : lockedOk o.op = true := by simpa [mayOne, ho] using hm
        refine fin (F1 := F.at w I (lvOf ns) L) (by show F.C = C; rw [hB.cfg, hC0]) (fun τ => okLk_locked hlo hno.1 (by rw [hB.cfg, hC0]; exact hno.2) τ) h1 fun a' w' hp => ?_
        obtain ⟨J, own', σ', q1, q2⟩ := hp
        refine ⟨J, ⟨q1.base, q1.imm, .inl fun hW b hb => ((q1.lk.stay b hb).1).trans (hW b hb)⟩, ih σ' J own' _ a' w' (hB.trans hB1) (fun _ => ⟨rfl, rfl, hW⟩) (fun e => by cases e) q1 q2⟩
      | false =>
        obtain ⟨h1, hB1⟩ := h.rebase (lv := fun _ => false) (lk := fun _ => False) (fun _ hb => hb.elim) (fun k e => by cases e)
        refine fin (F1 := F.at w I (fun _ => false) (fun _ => False)) (by show F.C = C; rw [hB.cfg, hC0]) (fun τ => OkLk.of_plain ⟨fun _ => rfl, fun _ hb => hb⟩ τ o (by show specO F.C o = false; rw [hB.cfg, hC0]; exact hno.2)) h1 fun a' w' hp => ?_
        obtain ⟨J, own', σ', q1, q2⟩ := hp
        exact ⟨J, ⟨q1.base, q1.imm, .inr hm⟩, ih σ' J own' _ a' w' (hB.trans hB1) (fun e => by cases e) (fun _ => ⟨fun _ => rfl, fun _ hb => hb⟩) q1 q2⟩
  intro t
  induction t with
  | fin =>
    intro lk n listed σ I own F a w ho hd hB hl1 hl2 h ha
    simp only [okOrd, List.isEmpty_iff] at ho
    exact Held.done ho (hK a w ⟨I, own, σ, h.back hB hF0, ha⟩)
  | quiet i t ih =>
    intro lk n listed σ I own F a w ho hd hB hl1 hl2 h ha
    simp only [okOrd, Bool.and_eq_true, Bool.or_eq_true] at ho
    obtain ⟨ho0, ho1, ho2, ho3, ho4⟩ := ho
    obtain ⟨n, rfl⟩ : ∃ m, n = m + 1 := ⟨n - 1, by simp only [Ord.depth] at hd; omega⟩
    cases lk with
    | false =>
      have hpu := ho0.resolve_left (by simp)
      simp only [aord] at ha
      rw [Array.getElem?_toList] at ha
      cases hoi : ops[i]? with
      | none => rw [hoi] at ha; exact ha.elim
      | some o =>
        rw [hoi] at ha
        obtain ⟨hq, hst⟩ := ha
        simp only [pureB, hoi] at hpu
        obtain ⟨h1, hB1⟩ := h.rebase (lv := fun _ => false) (lk := fun _ => False) (fun _ hb => hb.elim) (fun k e => by cases e)
        obtain ⟨v, k1, J, own', σ', k2, k3⟩ := pure_step (F := F.at w I (fun _ => false) (fun _ => False)) (by show F.C = C; rw [hB.cfg, hC0]) hok h1 hpu hq hst
        have hy : YieldsIf C.P ops (fun w2 => Imm.ok I w2 ∧ True) o v a := k1.imp (fun ⟨p, q⟩ => ⟨p, fun w2 hw2 => q w2 hw2.1⟩) id
        exact Held.first (S1 := fun _ => True) hoi (Region.noSelect_spec hsel) (fun c a w h => (hQp c _ w h).elim) (.inl fun _ => trivial) n listed I a w (Region.free_spec hoi ho2) (by simpa using ho1) hy h.imm trivial
          (Held.mono k2.base (ih false n _ σ' J own' _ _ w ho4 (by simp only [Ord.depth] at hd; omega) (hB.trans hB1) (fun e => by cases e) (fun _ => ⟨fun _ => rfl, fun _ hb => hb⟩) k2 k3))
    | true =>
    obtain ⟨e1, e2, e3⟩ := hl1 rfl
    simp only [aord] at ha
    rw [Array.getElem?_toList] at ha
    cases hoi : ops[i]? with
    | none => rw [hoi] at ha; exact ha.elim
    | some o =>
      rw [hoi] at ha
      obtain ⟨hq, hst⟩ := ha
      obtain ⟨h1, hB1⟩ := h.rebase (lv := lvOf ns) (lk := L) (fun b hb => by rw [← e1]; exact (h.lk.stay b (by rw [e2]; exact hb)).2) (fun k hk0 cs b hk hb => by rw [← e2]; exact h.lk.all k (by rw [e1]; exact hk0) cs b hk hb)
      have hW : ∀ b, L b → w.heap[b]? = W.heap[b]? := fun b hb => ((h.lk.stay b (by rw [e2]; exact hb)).1).trans (e3 b hb)
      have next : ∀ v, Post (F.at w I (lvOf ns) L) (aord C ops.toList ns K t) (a.put o.dst v) w → Held C.P ops Q B (fun w => ∀ b, L b → w.heap[b]? = W.heap[b]?) n (listed.setIfInBounds i true) I (a.put o.dst v) w := by
        rintro v ⟨J, own', σ', k2, k3⟩
        exact Held.mono k2.base (ih true n _ σ' J own' _ _ w ho4 (by simp only [Ord.depth] at hd; omega) (hB.trans hB1) (fun _ => ⟨rfl, rfl, hW⟩) (fun e => by cases e) k2 k3)
      cases hpu : pureOp o.op with
      | true =>
        obtain ⟨v, k1, k2⟩ := pure_step (by show F.C = C; rw [hB.cfg, hC0]) hok h1 hpu hq hst
        have hy : YieldsIf C.P ops (fun w2 => Imm.ok I w2 ∧ True) o v a := k1.imp (fun ⟨p, q⟩ => ⟨p, fun w2 hw2 => q w2 hw2.1⟩) id
        exact Held.first (S1 := fun _ => True) hoi (Region.noSelect_spec hsel) (fun c a w h => (hQp c _ w h).elim) (.inl fun _ => trivial) n listed I a w (Region.free_spec hoi ho2) (by simpa using ho1) hy h.imm trivial (next v k2)
      | false =>
      have ho3 : waitsAll ops B i = true := by
        rcases ho3 with e | e
        · simp only [pureB, hoi, hpu] at e; cases e
        · exact e
      obtain ⟨v, k1, k2⟩ := quiet_step (by show F.C = C; rw [hB.cfg, hC0]) hok h1 (.inr fun k hk => by show lvOf ns k = true; unfold lvOf; rw [hk]; rfl) hq hst
      have hy : YieldsIf C.P ops (fun w2 => Imm.ok I w2 ∧ ∀ b, L b → w2.heap[b]? = W.heap[b]?) o v a :=
        k1.imp (fun ⟨p, q⟩ => ⟨p, fun w2 hw2 => q w2 ⟨hw2.1, fun b hb => (hw2.2 b hb).trans (hW b hb).symm⟩⟩) id
      refine Held.first (S1 := fun w => ∀ b, L b → w.heap[b]? = W.heap[b]?) hoi (Region.noSelect_spec hsel) (fun c a w h => (hQp c _ w h).elim) (.inr ⟨fun _ => Iff.rfl, fun j oj hj hoj => ?_⟩) n listed I a w (Region.free_spec hoi ho2) (by simpa using ho1) hy h.imm hW (next v k2)
      simp only [waitsAll, List.all_eq_true] at ho3
      have := ho3 j (by simpa using hj)
      rw [hoj] at this
      simp only [Array.any_eq_true', Bool.and_eq_true, beq_iff_eq] at this
      obtain ⟨e, he, h2, h3⟩ := this
      exact ⟨e, he, h2, h3⟩
  | one i t ih =>
    intro lk n listed σ I own F a w ho hd hB hl1 hl2 h ha
    simp only [okOrd, Bool.and_eq_true, List.all_eq_true, beq_iff_eq] at ho
    obtain ⟨⟨ho0, ho1⟩, ho2, ho3⟩ := ho
    obtain ⟨n, rfl⟩ : ∃ m, n = m + 1 := ⟨n - 1, by simp only [Ord.depth] at hd; omega⟩
    have hop := one t lk n listed σ I own F a w i ho2 hB hl1 hl2 h ha fun σ' J own' F' a' w' q1 q2 q3 q4 q5 => ih lk n _ σ' J own' F' a' w' ho3 (by simp only [Ord.depth] at hd; omega) q1 q2 q3 q4 q5
    refine ⟨fun hr => ?_, fun j hj => by rw [ho1 j hj]; exact hop⟩
    rw [hr] at ho0; cases ho0
  | two i t j u iht ihu =>
    intro lk n listed σ I own F a w ho hd hB hl1 hl2 h ha
    simp only [okOrd, Bool.and_eq_true, List.all_eq_true, Bool.or_eq_true, beq_iff_eq] at ho
    obtain ⟨⟨ho0, ho1⟩, ho2, ho3, ho4, ho5⟩ := ho
    obtain ⟨n, rfl⟩ : ∃ m, n = m + 1 := ⟨n - 1, by simp only [Ord.depth] at hd; omega⟩
    simp only [Ord.depth] at hd
    have hop1 := one t lk n listed σ I own F a w i ho2 hB hl1 hl2 h ha.1 fun σ' J own' F' a' w' q1 q2 q3 q4 q5 => iht lk n _ σ' J own' F' a' w' ho4 (by omega) q1 q2 q3 q4 q5
    have hop2 := one u lk n listed σ I own F a w j ho3 hB hl1 hl2 h ha.2 fun σ' J own' F' a' w' q1 q2 q3 q4 q5 => ihu lk n _ σ' J own' F' a' w' ho5 (by omega) q1 q2 q3 q4 q5
    refine ⟨fun hr => (by rw [hr] at ho0; cases ho0), fun k hk => ?_⟩
    rcases ho1 k hk with rfl | rfl
    · exact hop1
    · exact hop2
  | three i t j u m v iht ihu ihv =>
    intro lk n listed σ I own F a w ho hd hB hl1 hl2 h ha
    simp only [okOrd, Bool.and_eq_true, List.all_eq_true, Bool.or_eq_true, beq_iff_eq] at ho
    obtain ⟨⟨ho0, ho1⟩, ho2, ho3, ho4, ho5, ho6, ho7⟩ := ho
    obtain ⟨n, rfl⟩ : ∃ m, n = m + 1 := ⟨n - 1, by simp only [Ord.depth] at hd; omega⟩
    simp only [Ord.depth] at hd
    have hop1 := one t lk n listed σ I own F a w i ho2 hB hl1 hl2 h ha.1 fun σ' J own' F' a' w' q1 q2 q3 q4 q5 => iht lk n _ σ' J own' F' a' w' ho5 (by omega) q1 q2 q3 q4 q5
    have hop2 := one u lk n listed σ I own F a w j ho3 hB hl1 hl2 h ha.2.1 fun σ' J own' F' a' w' q1 q2 q3 q4 q5 => ihu lk n _ σ' J own' F' a' w' ho6 (by omega) q1 q2 q3 q4 q5
    have hop3 := one v lk n listed σ I own F a w m ho4 hB hl1 hl2 h ha.2.2 fun σ' J own' F' a' w' q1 q2 q3 q4 q5 => ihv lk n _ σ' J own' F' a' w' ho7 (by omega) q1 q2 q3 q4 q5
    refine ⟨fun hr => (by rw [hr] at ho0; cases ho0), fun k hk => ?_⟩
    rcases ho1 k hk with (rfl | rfl) | rfl
    · exact hop1
    · exact hop2
    · exact hop3
  | lone i t ih =>
    intro lk n listed σ I own F a w ho hd hB hl1 hl2 h ha
    simp only [okOrd, Bool.and_eq_true, List.all_eq_true, beq_iff_eq] at ho
    obtain ⟨rfl, ⟨ho0, ho1⟩, ho3⟩ := ho
    obtain ⟨n, rfl⟩ : ∃ m, n = m + 1 := ⟨n - 1, by simp only [Ord.depth] at hd; omega⟩
    obtain ⟨e1, e2, e3⟩ := hl1 rfl
    simp only [aord] at ha
    rw [Array.getElem?_toList] at ha
    cases hoi : ops[i]? with
    | none => rw [hoi] at ha; exact ha.elim
    | some o =>
      rw [hoi] at ha
      simp only [aol, Bool.and_eq_true] at ha
      obtain ⟨⟨hg, hq⟩, hst⟩ := ha
      obtain ⟨h1, hB1⟩ := h.rebase (lv := lvOf ns) (lk := L) (fun b hb => by rw [← e1]; exact (h.lk.stay b (by rw [e2]; exact hb)).2) (fun k hk0 cs b hk hb => by rw [← e2]; exact h.lk.all k (by rw [e1]; exact hk0) cs b hk hb)
      have hW : ∀ b, L b → w.heap[b]? = W.heap[b]? := fun b hb => ((h.lk.stay b (by rw [e2]; exact hb)).1).trans (e3 b hb)
      obtain ⟨dst, op, ty, pos, after, g⟩ := o
      have hg : g = none := by cases g <;> first | rfl | cases hg
      subst hg
      cases op <;> try (simp [loneOp] at hq; done)
      rename_i T p x
      have hs := op_store (F := F.at w I (lvOf ns) L) (Q := Q) (pos := pos) (after := after) (g := none) hok h1 (fun k off e => by simp only [loneOp, e, eltAddr] at hq; show lvOf ns k = false; unfold lvOf; rw [hq]; rfl) (show (opR C σ dst ty (.store T p x)).wp C (aord C ops.toList ns K t) from hst)
      have hop : wpOp C.P ops Q i (fun a' w' => ∃ J, (Imm.le I J ∧ Imm.ok J w' ∧ (((∀ b, L b → w.heap[b]? = W.heap[b]?) → ∀ b, L b → w'.heap[b]? = W.heap[b]?) ∨ B.contains i = true)) ∧ Held C.P ops Q B (fun w => ∀ b, L b → w.heap[b]? = W.heap[b]?) n (listed.setIfInBounds i true) J a' w') a w := by
        unfold wpOp
        rw [hoi]
        simp only
        rw [if_pos (by simp [Region.wanted])]
        refine .inl (Oper.wp_mono (fun a' w' hp => ?_) hs)
        obtain ⟨J, own', σ', q1, q2⟩ := hp
        exact ⟨J, ⟨q1.base, q1.imm, .inl fun hW b hb => ((q1.lk.stay b hb).1).trans (hW b hb)⟩, ih true n _ σ' J own' _ a' w' ho3 (by simp only [Ord.depth] at hd; omega) (hB.trans hB1) (fun _ => ⟨rfl, rfl, hW⟩) (fun e => by cases e) q1 q2⟩
      refine ⟨fun hr => ?_, fun j hj => by rw [ho1 j hj]; exact hop⟩
      rw [hr] at ho0; cases ho0
  | unlock t ih =>
    intro lk n listed σ I own F a w ho hd hB hl1 hl2 h ha
    simp only [okOrd, Bool.and_eq_true] at ho
    exact ih false n listed σ I own F0 a w ho.2 hd (Based.refl F0 hB.mko) (fun e => by cases e) (fun _ => hF0) (h.back hB hF0) ha
end
end Go.Proofs.Ytmngjlgeojbghaa.VA
end
section
namespace Go.Proofs.Ytmngjlgeojbghaa.VA
section
variable {P : Program} {Q : Exit → Act → World → Prop} {a : Act} {w : World} {r : Option Nat}

/-- The fence that lets everything in, outside a round or within round r. -/
abbrev fen (r : Option Nat) : Fence := { Fence.wide with round := r }
theorem callsIn_fen {n : Nat} {f : FuncId} {args : Array Value} {w : World} {R : Ending → World → Prop} (h : Calls P f args w R) : CallsIn (fen r) n P f args w R :=
  callsIn_wide.2 h
theorem rowsIn_fen {n : Nat} {row : String} {args : Array Value} {w : World} {R : Value → World → Prop} (h : Rows P row args w R) : RowsIn (fen r) n P row args w R := by
  intro c cs _
  obtain ⟨v, w', q, s⟩ := h c cs
  exact ⟨v, w', q, stepsIn_wide.2 s⟩
theorem oper_in {o : Oper} {K : Act → World → Prop} (hd : ∀ c, o.op ≠ .defer c) (h : o.wp P a w K Q) : o.wpIn (fen r) 0 P a w K Q := by
  refine ⟨fun _ _ => trivial, ?_⟩
  rw [Oper.semAt_eq _ _ _ hd]
  unfold Oper.wp at h
  generalize (execOp a.eval o).run P w = x at *
  cases x with
  | ok n w' =>
    cases n <;> simp only [Oper.upon, Oper.uponIn] at h ⊢ <;>
      first
        | exact h
        | exact ⟨fun e => (Bool.false_ne_true e).elim, CallsIn.mono (callsIn_fen h) (fun e w'' he => by cases e <;> exact he)⟩
        | exact ⟨fun e => (Bool.false_ne_true e).elim, RowsIn.mono (rowsIn_fen h) (fun v w'' he => he)⟩
        | exact h.elim
  | halt x w' => cases x <;> simp only [Oper.upon, Oper.uponIn] at h ⊢ <;> exact h
theorem ops_in {ops : Array Oper} (hd : ∀ o, o ∈ ops → ∀ c, o.op ≠ .defer c) (hL : ¬ LetsOut Q) : ∀ (l : List Nat) (a : Act) (w : World), wpOps P ops Q l a w → wpOpsIn (fen r) 0 P ops Q l a w := by
  intro l
  induction l with
  | nil => exact fun a w h => h
  | cons i rest ih =>
    intro a w h
    rw [wpOps_cons] at h
    rw [wpOpsIn_cons]
    unfold wpOp at h
    unfold wpOpIn
    cases ho : ops[i]? with
    | none => rw [ho] at h; exact ih a w h
    | some o =>
      rw [ho] at h
      simp only at h ⊢
      split
      · rename_i hw
        rw [if_pos hw] at h
        rcases h with h | h
        · exact Oper.wpIn_mono ih (oper_in (hd o (Array.mem_of_getElem? ho)) h)
        · exact (hL h.2).elim
      · rename_i hw
        rw [if_neg hw] at h
        exact ⟨fun _ _ => trivial, ih _ _ h⟩
theorem region_in {id : Nat} {ops : Array Oper} (hd : ∀ o, o ∈ ops → ∀ c, o.op ≠ .defer c) (hL : ¬ LetsOut Q) (h : wpList P ops Q ops.toList a w) : (Code.region id ops false).wpIn (fen r) 0 P Q a w :=
  wpIn_region (ops_in hd hL _ a w (by rw [List.range_eq_range', ← Array.length_toList, wpOps_eq_wpList ops.toList 0 (by simp)]; exact h))
theorem any_in {ops : Array Oper} (hd : ∀ o, o ∈ ops → ∀ c, o.op ≠ .defer c) (hL : ¬ LetsOut Q) {md : Region.Mode} : ∀ (n : Nat) (listed : Array Bool) (a : Act) (w : World), wpAny P md ops Q n listed a w → wpAnyIn (fen r) 0 P md ops Q n listed a w := by
  intro n
  induction n with
  | zero => exact fun listed a w h => h
  | succ n ih =>
    intro listed a w h
    refine ⟨h.1, fun i hi => ?_⟩
    have h := h.2 i hi
    unfold wpOp at h
    unfold wpOpIn
    cases ho : ops[i]? with
    | none => rw [ho] at h; exact ih _ a w h
    | some o =>
      rw [ho] at h
      simp only at h ⊢
      split
      · rename_i hw
        rw [if_pos hw] at h
        rcases h with h | h
        · exact Oper.wpIn_mono (ih _) (oper_in (hd o (Array.mem_of_getElem? ho)) h)
        · exact (hL h.2).elim
      · rename_i hw
        rw [if_neg hw] at h
        exact ⟨fun _ _ => trivial, ih _ _ _ h⟩

theorem stepR_scope {b : Frame} {k : List Item} {cs : List Frame} {c : Code} : step P (lone (b.atR a (.code (.scope c) :: k)) cs w) = .next (lone (b.atR a (.code c :: .inScope c :: k)) cs w) :=
  step_lone_go (by simp [stepG, stepG.exec, Frame.atR])
theorem stepR_inScope {b : Frame} {k : List Item} {cs : List Frame} {c : Code} : step P (lone (b.atR a (.inScope c :: k)) cs w) = .next (lone (b.atR a k) cs w) :=
  step_lone_go (by simp [stepG, stepG.exec, Frame.atR])
theorem wpIn_scope_straight {F : Fence} {n : Nat} {c : Code} (h : c.wpIn F n P (Exit.noGoto Q) a w) : (Code.scope c).wpIn F n P Q a w := by
  intro b k cs hro hb hr
  obtain ⟨e, a₁, w₁, hq, harr⟩ := h b (.inScope c :: k) cs hro hb hr
  have s0 : StepsIn (Machine.fenced P F) P (lone (b.atR a (.code (.scope c) :: k)) cs w) (lone (b.atR a (.code c :: .inScope c :: k)) cs w) := .one (fenced_calm hb hr rfl) stepR_scope
  cases e with
  | normal => exact ⟨.normal, a₁, w₁, hq, StepsIn.trans s0 (StepsIn.trans harr (.one (fenced_calm hb hr rfl) stepR_inScope))⟩
  | exit id => exact ⟨.exit id, a₁, w₁, hq, fun k' hk => StepsIn.trans s0 (harr.1 k' (by simp [exitTo, hk])), fun hs hk => by
      obtain ⟨k₁, q1, q2⟩ := harr.2 hs (by simp [exitTo, hk])
      exact ⟨k₁, q1, StepsIn.trans s0 q2⟩⟩
  | goto l => exact hq.elim
  | ret => exact ⟨.ret, a₁, w₁, hq, .of_steps s0 harr⟩
  | panic ch => exact ⟨.panic ch, a₁, w₁, hq, .of_steps s0 harr⟩
  | outgrown => exact ⟨.outgrown, a₁, w₁, hq, .of_steps s0 harr⟩
end
end Go.Proofs.Ytmngjlgeojbghaa.VA
end
section
namespace Go.Proofs.Ytmngjlgeojbghaa.VA
section
variable {F F2 : Fx} {I : Imm} {own own2 : Nat → Option Loc} {σ : ASt} {a a2 : Act} {w w2 : World} {C : Cfg} {K : ASt → Prop}

theorem SRep.any (hmo : ∀ b, F.mo b → F2.mo b) {l : Loc} {x : AV} {v : Value} (h : SRep F I own σ a w l x v) : SRep F2 I own σ a w l x v := by
  have him : x.isImm = true → SRep F2 I own σ a w l x v := fun hx => (srep_imm hx).2 (((srep_imm hx).1 h).mono hmo (Imm.leRefl I))
  cases x with
  | bot => trivial
  | undef => exact h
  | own sh sz es =>
    rcases h with h | ⟨g, cap, h1, h2, h3⟩
    · exact .inl h
    · exact .inr ⟨g, cap, h1, h2, h3.mono hmo⟩
  | ref l' => exact h
  | var k off => exact h
  | elt y i off =>
    cases y with
    | ref l' => exact h
    | sl fr sz es =>
      obtain ⟨b, o, n, cap, h1, h2⟩ := h
      exact ⟨b, o, n, cap, h1.mono hmo (Imm.leRefl I), h2⟩
    | _ => exact h.elim
  | tup vs => exact h
  | bool => exact him rfl
  | int => exact him rfl
  | str => exact him rfl
  | fn => exact him rfl
  | nilf => exact him rfl
  | agg => exact him rfl
  | sl => exact him rfl
  | ext => exact him rfl
  | hd => exact him rfl

theorem SRep.ofPlain {l : Loc} {x : AV} {v : Value} (hp : x.plainV) (h : SRep F I own σ a w l x v) : SRep F2 I own σ a w l x v := by
  have him : Plain x → x.isImm = true → SRep F2 I own σ a w l x v := fun hp hx => (srep_imm hx).2 (((srep_imm hx).1 h).plain hp)
  cases x with
  | bot => trivial
  | undef => exact h
  | own sh sz es =>
    rcases h with h | ⟨g, cap, h1, h2, h3⟩
    · exact .inl h
    · have hp : Plain (.own sh sz es) := hp
      cases hp with
      | own _ _ _ hp =>
        refine .inr ⟨g, cap, h1, h2, ⟨h3.le, h3.capm, h3.cells, fun i e he => ?_, h3.immc, h3.immn, h3.frz⟩⟩
        obtain ⟨u, q1, q2, q3⟩ := h3.elems i e he
        exact ⟨u, q1.plain (hp e (List.mem_of_getElem? he)), q2, q3⟩
  | ref l' => have hp : Plain _ := hp; cases hp
  | var k off => have hp : Plain _ := hp; cases hp
  | elt y i off => have hp : Plain _ := hp; cases hp
  | tup vs => have hp : Plain _ := hp; cases hp
  | _ => exact him hp rfl

/-- Another base; a world in which no cell is another one. -/
theorem RI.turn (h : RI F I own σ a w) (hn : F2.C.n = F.C.n) (hI0 : F2.I0 = I) (hw0 : F2.w0 = w2) (hopen : F2.open) (hS : ∀ b l, own b = some l → F2.S b) (hsr : ∀ l x v, σ.at l = some x → SRep F I own σ a w l x v → SRep F2 I own σ a w l x v) (hmk : ∀ b, F2.mine b → F2.mo b)
    (ha : a2.tmps = a.tmps) (hd : a2.defers = F2.ds ∧ ∀ t, F2.C.fix.contains t = true → a2.tmps[t]? = F2.a0[t]?)
    (hc : ∀ p, w2.cell? p = w.cell? p) (hf : ∀ p, w2.frozen? p = w.frozen? p) (hsz : w.heap.size ≤ w2.heap.size) : RI F2 I own σ a2 w2 := by
  have hconc : ∀ l, conc a2 w2 l = conc a w l := by
    intro l
    cases l with
    | cell k j =>
      simp only [conc, ha]
      unfold cellOf
      split
      · exact hc _
      · rfl
    | _ => simp only [conc, ha]
  exact {
    st := by
      rw [hn]
      exact ⟨fun s hs => ⟨(h.st.ok s hs).ours, (h.st.ok s hs).gap, fun b o u h1 h2 => by rw [hc, hf]; exact (h.st.ok s hs).cells b o u h1 h2, (h.st.ok s hs).top, (h.st.ok s hs).low, (h.st.ok s hs).sub⟩, h.st.apart⟩
    imm := fun b o v hb => by rw [hc]; exact h.imm b o v hb
    base := by rw [hI0]; exact Imm.leRefl I
    inew := fun b o v hb => .inl (by rw [hI0]; exact hb)
    fr := by rw [hw0]; exact fr_refl _ _
    mko := hmk
    mine := fun b l hb => ⟨.inr (hS b l hb), Nat.lt_of_lt_of_le (h.mine b l hb).2 hsz⟩
    defs := hd
    size := by rw [ha, h.size, hn]
    slots := fun l x hx => by
      obtain ⟨v, h1, h2⟩ := h.slots l x hx
      refine ⟨v, by rw [hconc]; exact h1, (hsr l x v hx h2).keep (Imm.leRefl I) (fun g sh sz es cap _ e1 e2 => ⟨e1, ?_⟩) (fun l' _ sh sz es he => ⟨⟨sh, es, he⟩, hconc l'⟩) (fun k off _ cs hk => ⟨⟨cs, hk⟩, by rw [ha]⟩)⟩
      exact e2.keep (fun _ h => h) (Imm.leRefl I) (fun _ h => h) (fun o => hc _) (fun o => hf _)
    boxes := fun k cs hk => by
      obtain ⟨b, e1, e2, e3, e4⟩ := h.boxes k cs hk
      refine ⟨b, by rw [ha]; exact e1, e2, e3, fun j hj => ?_⟩
      obtain ⟨v, q1, q2, q3⟩ := e4 j hj
      exact ⟨v, by rw [hc]; exact q1, q2, by rw [hf]; exact q3⟩
    quiet := h.quiet
    lk := ⟨fun b hb => (hopen.2 b hb).elim, fun k e => by rw [hopen.1] at e; cases e⟩ }
/-- Fewer blocks are owned. -/
theorem RI.less (h : RI F I own σ a w) (hop : F.open) (hsub : ∀ b l, own2 b = some l → own b = some l) (hkeep : ∀ l sh sz es g, σ.at l = some (.own sh sz es) → own g = some l → own2 g = some l)
    (hbox : ∀ k cs b, look σ.vars k = some cs → own b = some (.box k) → own2 b = some (.box k)) (hst : σ.st = [] := by rfl) : RI F I own2 σ a w where
  st := by rw [hst]; exact .nil
  imm := h.imm
  base := h.base
  inew := h.inew
  fr := h.fr
  mko := h.mko
  mine b l hb := h.mine b l (hsub b l hb)
  defs := h.defs
  size := h.size
  slots l x hx := by
    obtain ⟨v, h1, h2⟩ := h.slots l x hx
    exact ⟨v, h1, h2.keep (Imm.leRefl I) (fun g sh sz es cap e e1 e2 => ⟨hkeep l sh sz es g (by rw [← e]; exact hx) e1, e2⟩) (fun l' _ sh sz es he => ⟨⟨sh, es, he⟩, rfl⟩) (fun k off _ cs hk => ⟨⟨cs, hk⟩, rfl⟩)⟩
  boxes k cs hk := by
    obtain ⟨b, e1, e2, e3⟩ := h.boxes k cs hk
    exact ⟨b, e1, hbox k cs b hk e2, e3⟩
  quiet := h.quiet
  lk := ⟨fun b hb => (hop.2 b hb).elim, fun k e => by rw [hop.1] at e; cases e⟩
/-- What is owned by the variables ks alone. -/
def keepB (ks : List Nat) (own : Nat → Option Loc) (b : Nat) : Option Loc :=
  match own b with
  | some (.box k) => if ks.contains k = true then some (.box k) else none
  | some (.cell k j) => if ks.contains k = true then some (.cell k j) else none
  | _ => none
theorem keepB_sub {ks : List Nat} {b : Nat} {l : Loc} (h : keepB ks own b = some l) : own b = some l ∧ ∀ t, l ≠ .tmp t := by
  unfold keepB at h
  cases e : own b with
  | none => rw [e] at h; cases h
  | some l0 =>
    rw [e] at h
    cases l0 <;> simp only at h <;> try cases h
    all_goals split at h
    all_goals first | (cases h; exact ⟨rfl, fun t e => by cases e⟩) | cases h
theorem RI.vars0 (h : RI F I own σ a w) (hop : F.open) (ks : List Nat) : RI F I (keepB ks own) ⟨[], keepV ks σ.vars, []⟩ a w := by
  have hat : ∀ l x, ASt.at ⟨[], keepV ks σ.vars, []⟩ l = some x → ∃ k j cs, l = .cell k j ∧ ks.contains k = true ∧ look σ.vars k = some cs ∧ cs[j]? = some x := by
    intro l x hx
    cases l with
    | tmp t => cases hx
    | comp t j => cases hx
    | box k => cases hx
    | cell k j =>
      simp only [ASt.at] at hx
      cases e : look (keepV ks σ.vars) k with
      | none => rw [e] at hx; cases hx
      | some cs =>
        rw [e] at hx
        obtain ⟨e1, e2⟩ := look_keepV ks _ k cs e
        exact ⟨k, j, cs, rfl, e2, e1, hx⟩
  have h1 : RI F I own ⟨[], keepV ks σ.vars, []⟩ a w := h.weaken (fun l x hx => by
    obtain ⟨k, j, cs, rfl, _, e1, e2⟩ := hat l x hx
    exact ⟨x, by simp only [ASt.at, e1]; exact e2, .inl rfl⟩) (fun k cs hk => ⟨cs, (look_keepV ks _ k cs hk).1, rfl⟩) (List.nil_sublist _)
  refine h1.less hop (fun b l hb => (keepB_sub hb).1) (fun l sh sz es g hx hg => ?_) fun k cs b hk hb => ?_
  · obtain ⟨k, j, cs, rfl, e0, _⟩ := hat l _ hx
    simp only [keepB, hg, e0, if_true]
  · have e0 := (look_keepV ks _ k cs hk).2
    simp only [keepB, hb, e0, if_true]

/-- What is known of a temporary. -/
def TRep (F : Fx) (I : Imm) (own : Nat → Option Loc) (vs : List (Nat × List AV)) (a : Act) (w : World) (t : Nat) (x : AV) (v : Value) : Prop :=
  x = .bot ∨ (x.isImm = true ∧ AR F.mo I x v) ∨
  (∃ k off, x = .var k off ∧ ∀ cs, look vs k = some cs → ∃ b, a.tmps[k]? = some (.pointer (some ⟨b, 0, none⟩)) ∧ v = .pointer (some ⟨b, off, none⟩)) ∨
  ∃ sh sz es, x = .own sh sz es ∧ ((v = .slice none 0 0 ∧ es = []) ∨ ∃ g cap, v = .slice (some ⟨g, 0, none⟩) es.length cap ∧ own g = some (.tmp t) ∧ Row F.mo I w g sh sz es cap)
/-- Temporaries are laid beside variables. -/
theorem RI.make {vs : List (Nat × List AV)} (h : RI F I own ⟨[], vs, []⟩ a w) (hop : F.open) (tm : List (Nat × AV)) (hown : ∀ b l, own b = some l → own2 b = some l) (hmine : ∀ b l, own2 b = some l → F.mine b ∧ b < w.heap.size)
    (hsz : a2.tmps.size = F.C.n) (hd : a2.defers = F.ds ∧ ∀ t, F.C.fix.contains t = true → a2.tmps[t]? = F.a0[t]?) (hv : ∀ k cs, look vs k = some cs → a2.tmps[k]? = a.tmps[k]?)
    (ht : ∀ t x, look tm t = some x → ∃ v, a2.tmps[t]? = some v ∧ TRep F I own2 vs a2 w t x v) : RI F I own2 ⟨tm, vs, []⟩ a2 w := by
  have hcomp : ∀ t j, ASt.at ⟨tm, vs, []⟩ (.comp t j) = none := by
    intro t j
    simp only [ASt.at]
    cases e : look tm t with
    | none => rfl
    | some x =>
      obtain ⟨v, _, hx⟩ := ht t x e
      rcases hx with rfl | ⟨hi, _⟩ | ⟨k, off, rfl, _⟩ | ⟨sh, sz, es, rfl, _⟩
      · rfl
      · cases x <;> first | rfl | cases hi
      · rfl
      · rfl
  have hcell : ∀ k j, conc a2 w (.cell k j) = conc a w (.cell k j) ∨ look vs k = none := by
    intro k j
    cases e : look vs k with
    | none => exact .inr rfl
    | some cs => exact .inl (by simp only [conc, hv k cs e])
  exact {
    st := .nil
    imm := h.imm
    base := h.base
    inew := h.inew
    fr := h.fr
    mko := h.mko
    mine := hmine
    defs := hd
    size := hsz
    slots := by
      intro l x hx
      cases l with
      | box k => cases hx
      | comp t j => rw [hcomp] at hx; cases hx
      | tmp t =>
        obtain ⟨v, h1, h2⟩ := ht t x hx
        refine ⟨v, h1, ?_⟩
        rcases h2 with rfl | ⟨hi, ha⟩ | ⟨k, off, rfl, hk⟩ | ⟨sh, sz, es, rfl, hr⟩
        · trivial
        · exact (srep_imm hi).2 ha
        · exact hk
        · exact hr
      | cell k j =>
        have hx0 : ASt.at ⟨[], vs, []⟩ (.cell k j) = some x := hx
        obtain ⟨v, h1, h2⟩ := h.slots (.cell k j) x hx0
        have hq := h.quiet (.cell k j) x hx0 (fun t e => by cases e)
        have hlk : look vs k ≠ none := fun e => by simp only [ASt.at, e] at hx0; cases hx0
        refine ⟨v, by rw [(hcell k j).resolve_right hlk]; exact h1, h2.keep (Imm.leRefl I) (fun g sh sz es cap _ e1 e2 => ⟨hown g _ e1, e2⟩) (fun l' hl' => ?_) (fun k' off e => ?_)⟩
        · rw [hq.1 l'] at hl'; cases hl'
        · have := hq.2 k'
          rw [e] at this
          simp [AV.leansVar] at this
    boxes := fun k cs hk => by
      obtain ⟨b, e1, e2, e3⟩ := h.boxes k cs hk
      exact ⟨b, by rw [hv k cs hk]; exact e1, hown b _ e2, e3⟩
    quiet := by
      intro l x hx hl
      cases l with
      | box k => cases hx
      | comp t j => rw [hcomp] at hx; cases hx
      | tmp t => exact (hl t rfl).elim
      | cell k j => exact h.quiet (.cell k j) x hx (fun t e => by cases e)
    lk := ⟨fun b hb => (hop.2 b hb).elim, fun k e => by rw [hop.1] at e; cases e⟩ }

/-! A turn of a block that is no cells. -/
theorem cell?_put {l : Nat} {o o' : Obj} (h : w.heap[l]? = some o) (h1 : ∀ c e f, o ≠ .cells c e f) (h2 : ∀ c e f, o' ≠ .cells c e f) (p : Addr) : (w.putObj l o').cell? p = w.cell? p ∧ (w.putObj l o').frozen? p = w.frozen? p := by
  by_cases e : p.block = l
  · have e1 : (w.putObj l o').heap[p.block]? = some o' := by rw [e]; exact World.putObj_heap_same (Array.getElem?_eq_some_iff.1 h).1
    have e2 : w.heap[p.block]? = some o := by rw [e]; exact h
    unfold World.cell? World.frozen?
    rw [e1, e2]
    cases o <;> cases o' <;> first | exact ⟨rfl, rfl⟩ | exact (h1 _ _ _ rfl).elim | exact (h2 _ _ _ rfl).elim
  · exact ⟨World.cell?_of_block (World.putObj_heap_other e), World.frozen?_of_block (World.putObj_heap_other e)⟩
theorem cell?_newObj {o : Obj} (h2 : ∀ c e f, o ≠ .cells c e f) (p : Addr) : (w.alloc o).cell? p = w.cell? p ∧ (w.alloc o).frozen? p = w.frozen? p := by
  rcases Nat.lt_trichotomy p.block w.heap.size with e | e | e
  · have e1 : (w.alloc o).heap[p.block]? = w.heap[p.block]? := RowKit.Below.heap_alloc w o _ e
    exact ⟨World.cell?_of_block e1, World.frozen?_of_block e1⟩
  · have e1 : (w.alloc o).heap[p.block]? = some o := by rw [e]; exact World.alloc_heap_new w o
    have e2 : w.heap[p.block]? = none := Array.getElem?_eq_none (by omega)
    unfold World.cell? World.frozen?
    rw [e1, e2]
    cases o <;> first | exact ⟨rfl, rfl⟩ | exact (h2 _ _ _ rfl).elim
  · have e1 : (w.alloc o).heap[p.block]? = none := Array.getElem?_eq_none (by rw [World.size_alloc]; omega)
    have e2 : w.heap[p.block]? = none := Array.getElem?_eq_none (by omega)
    unfold World.cell? World.frozen?
    rw [e1, e2]
    exact ⟨rfl, rfl⟩
end
end Go.Proofs.Ytmngjlgeojbghaa.VA
end
