/- Functions that write over the rows of what they are given: what is kept. tarnlaw0.Tx writes over a transaction's rows, and over nothing else. Products of numbers of 256 bits. The page's product, digit by digit. The program's product, limb by limb. Marks: what mark.Mark, mark.Take, mark.Text and the page's own answers do. MarkTells: the law's function answers true for every list of texts. Blobs: what blob.Hash, Fits, Gas and the page's own answers do. Transactions as data; what they cost. Which transactions may be, by the page; their costs; pairs. Copies of rows of marks and of texts. Transactions: copies, weights, plain ones. tarnlaw0.Txs, Limbo: they write over rows of transactions, and over nothing else. One item out of bytes, of new memory alone. tarnlaw0.Item writes over an item's rows, and over nothing else. Laws that write over what they were told: helps. ItemTakes: the law's function answers true. ItemParses: the law's function answers true. ItemBack: the law's function answers true. Three laws on items. -/
import Derived.Test.YtmngjlgeojbghaaT1
import Derived.Test.YtmngjlgeojbghaaT2
import Derived.Test.YtmngjlgeojbghaaT3
import Derived.Test.YtmngjlgeojbghaaT4
import Derived.Deep.LoopGhost
import Derived.WalkKit
set_option linter.unusedSimpArgs false
set_option linter.unusedVariables false
section
namespace Go.Proofs.Ytmngjlgeojbghaa.VA
open Go.RowKit

/-- What a cell may turn to: a value of its kind; a slice: the nil slice. -/
inductive Kin : Value → Value → Prop
  | same (v : Value) : Kin v v
  | int (k : IntKind) (a b : Int) : Kin (.int k a) (.int k b)
  | str (s t : ByteArray) : Kin (.string s) (.string t)
  | bool (a b : Bool) : Kin (.bool a) (.bool b)
  | nil (b : Option Addr) (n c : Nat) : Kin (.slice b n c) (.slice none 0 0)
/-- The cells of the blocks B are as they were, but for their kinds. -/
structure Sp (I : Imm) (B : Nat → Prop) (w : World) : Prop where
  cells : ∀ b o u, B b → I b o = some u → ∃ u', w.cell? ⟨b, o, none⟩ = some u' ∧ w.frozen? ⟨b, o, none⟩ = false ∧ Kin u u'
/-- A value as it stands now: its cells are of the kinds that they had. -/
def KinV (v v' : Value) : Prop := v.cells.size = v'.cells.size ∧ ∀ (j : Nat) u u', v.cells[j]? = some u → v'.cells[j]? = some u' → Kin u u'

theorem cells_eq {M N : Nat → Prop} {I : Imm} {e : AV} {v v' : Value} (h : AR M I e v) (h' : AR N I e v') (hc : v.cells = v'.cells) : v = v' := by
  rcases h.kind with ⟨cs, vs, rfl, rfl, _⟩ | ⟨h1, h2⟩
  · cases h' with
    | agg _ vs' => rw [show vs = vs' from hc]
  · rcases h'.kind with ⟨cs, vs', rfl, rfl, _⟩ | ⟨h1', _⟩
    · cases h; cases h1
    · rw [cells_one h1, cells_one h1'] at hc
      simpa using hc
/-- The least set of blocks that a value leans on. -/
theorem AR.least {I : Imm} {x : AV} {v : Value} (h : AR (fun _ => True) I x v) : Wide x → ∀ N : Nat → Prop, (∀ b, (∀ M, AR M I x v → M b) → (∃ o u, I b o = some u) → N b) → AR N I x v := by
  induction h with
  | bool b => exact fun _ _ _ => .bool b
  | int k n => exact fun _ _ _ => .int k n
  | str s => exact fun _ _ _ => .str s
  | fn f => exact fun hw => by cases hw
  | nilf => exact fun hw => by cases hw
  | agg cs vs hl h1 hc ih =>
    intro hw N hN
    cases hw with
    | agg _ hw =>
      refine .agg cs vs hl h1 fun j c u hj hu => ih j c u hj hu (hw c (List.mem_of_getElem? hj)) N fun b hb => hN b fun M hM => hb M ?_
      cases hM with
      | agg _ _ _ _ hM => exact hM j c u hj hu
  | slnil fr sz base cap => exact fun _ _ _ => .slnil fr sz base cap
  | sl fr sz es b o n cap hn hc vs hv hz hI _ ih =>
    intro hw N hN
    cases hw with
    | sl _ _ _ h0 hw =>
      cases es with
      | nil => subst hn; exact .slnil fr sz _ _
      | cons e0 es =>
        have hcell : ∃ o u, I b o = some u := by
          have hs := hz 0 (by simp)
          exact ⟨_, _, hI 0 0 _ (by simp) (Array.getElem?_eq_getElem (by rw [hs]; exact h0))⟩
        have inv : ∀ M, AR M I (.sl fr sz (e0 :: es)) (.slice (some ⟨b, o, none⟩) n cap) → (fr = true → M b) ∧ ∀ (i : Nat) e, (e0 :: es)[i]? = some e → AR M I e (vs i) := by
          intro M hM
          cases hM with
          | sl _ _ _ _ _ _ _ _ _ vs' hv' hz' hI' hM' =>
            refine ⟨hM', fun i e he => ?_⟩
            have hi := (List.getElem?_eq_some_iff.1 he).1
            have e1 : vs i = vs' i := by
              refine cells_eq (hv i e he) (hv' i e he) (Array.ext (by rw [hz i hi, hz' i hi]) fun j h1 h2 => ?_)
              have q1 := hI i j _ hi (Array.getElem?_eq_getElem h1)
              have q2 := hI' i j _ hi (Array.getElem?_eq_getElem h2)
              rw [q1] at q2
              exact Option.some.inj q2
            rw [e1]; exact hv' i e he
        refine .sl fr sz _ b o n cap hn hc vs (fun i e he => ih i e he (hw e (List.mem_of_getElem? he)) N fun c hb => hN c fun M hM => hb M ((inv M hM).2 i e he)) hz hI fun e => hN b (fun M hM => (inv M hM).1 e) hcell
  | ext => exact fun hw => by cases hw
  | hd => exact fun hw => by cases hw

/-- A row of the value, as it stands now. -/
theorem row_now {I : Imm} {B : Nat → Prop} {sz : Nat} {es : List AV} {u u' : Value} (h : AR B I (.sl true sz es) u) (hk : Kin u u') : ∃ base n cap, u' = .slice base n cap ∧ (n = 0 ∨ (n = es.length ∧ ∃ b o, base = some ⟨b, o, none⟩ ∧ B b ∧ ∃ vs : Nat → Value,
    (∀ (i : Nat) e, es[i]? = some e → AR B I e (vs i)) ∧ (∀ i, i < es.length → (vs i).cells.size = sz) ∧ ∀ (i j : Nat) c, i < es.length → (vs i).cells[j]? = some c → I b (o + i * sz + j) = some c)) := by
  cases h with
  | slnil fr sz base cap =>
    cases hk with
    | same => exact ⟨_, _, _, rfl, .inl rfl⟩
    | nil => exact ⟨_, _, _, rfl, .inl rfl⟩
  | sl fr sz es b o n cap hn hc vs hv hz hI hM =>
    cases hk with
    | same => exact ⟨_, _, _, rfl, .inr ⟨hn, b, o, rfl, hM rfl, vs, hv, hz, hI⟩⟩
    | nil => exact ⟨_, _, _, rfl, .inl rfl⟩

/-- Between two stores. -/
structure SpG (I : Imm) (B : Nat → Prop) (w0 w : World) : Prop where
  fr : Fr w0 w B
  sp : Sp I B w
theorem SpG.grow {I : Imm} {B : Nat → Prop} {w0 w w' : World} (h : SpG I B w0 w) (hw : Fr w w' fun _ => False) : SpG I B w0 w' where
  fr := fr_trans h.fr hw.os hw.tape hw.output hw.size (fun k hk _ => hw.block k (Nat.lt_of_lt_of_le hk h.fr.size) id) hw.new
  sp := ⟨fun b o u hb hu => by
    obtain ⟨u', h1, h2, h3⟩ := h.sp.cells b o u hb hu
    have hlt : b < w.heap.size := World.block_lt_of_cell? w _ h1
    have e := hw.block b hlt id
    exact ⟨u', by rw [World.cell?_of_block e]; exact h1, by rw [World.frozen?_of_block e]; exact h2, h3⟩⟩
theorem SpG.called {I : Imm} {B : Nat → Prop} {w0 w w' : World} (h : SpG I B w0 w) (hw : SpG I B w w') : SpG I B w0 w' where
  fr := fr_trans h.fr hw.fr.os hw.fr.tape hw.fr.output hw.fr.size (fun k hk hn => hw.fr.block k (Nat.lt_of_lt_of_le hk h.fr.size) hn) hw.fr.new
  sp := hw.sp
/-- Cells of a block of B are written over, by values of their kinds. -/
theorem SpG.write {I : Imm} {B : Nat → Prop} {w0 w : World} (h : SpG I B w0 w) {b off : Nat} {vals : List Value} (hb : B b) (hc : ∀ j, j < vals.length → (w.cell? ⟨b, off + j, none⟩).isSome = true)
    (hk : ∀ (j : Nat) u v, I b (off + j) = some u → vals[j]? = some v → Kin u v) : SpG I B w0 (w.setCells b off vals) := by
  have hW := wr_setCells w b off vals hc
  refine ⟨fr_trans h.fr hW.os hW.tape hW.output (Nat.le_of_eq hW.size.symm) (fun k hk hn => hW.block k fun e => by subst e; exact hn hb) fun k o u hu => .inl ⟨hW.dom k o u hu, hW.frz _⟩, ⟨fun b' o u hb' hu => ?_⟩⟩
  obtain ⟨u', h1, h2, h3⟩ := h.sp.cells b' o u hb' hu
  rw [hW.frz]
  by_cases e : b' = b
  · subst e
    by_cases hin : off ≤ o ∧ o < off + vals.length
    · have e1 := hW.cin (o - off) (by omega)
      rw [show off + (o - off) = o by omega] at e1
      have hlt : o - off < vals.length := by omega
      rw [e1, List.getElem?_eq_getElem hlt]
      exact ⟨_, rfl, h2, hk (o - off) u _ (by rw [show off + (o - off) = o by omega]; exact hu) (List.getElem?_eq_getElem hlt)⟩
    · rw [hW.cout o (by omega)]; exact ⟨u', h1, h2, h3⟩
  · rw [hW.cell_ne e]; exact ⟨u', h1, h2, h3⟩
/-! Loads and stores of whole elements, one step each. -/
theorem wpList_load {P : Program} {ops : Array Oper} {rest : List Oper} {o : Oper} {a : Act} {w : World} {Q : Exit → Act → World → Prop} (hgd : o.guard = none) (T : TypeId) (x : Operand) (ho : o.op = .load T x) {p : Addr} (hp : a.eval x = .pointer (some p)) {v : Value}
    (hr : (Go.loadVar T p).run P w = .ok v w) (h : wpList P ops Q rest (a.put o.dst v) w) : wpList P ops Q (o :: rest) a w :=
  wpList_plain hgd fun _ hK => by
    unfold Oper.wp execOp
    simp only [ho, Sem.run_bind, Sem.run_pure, Result.andThen_ok, run_loadAt hp hr]
    exact hK _ _ h
theorem wpList_store {P : Program} {ops : Array Oper} {rest : List Oper} {o : Oper} {a : Act} {w w' : World} {Q : Exit → Act → World → Prop} (hgd : o.guard = none) (T : TypeId) (p x : Operand) (ho : o.op = .store T p x) (hd : o.dst = none) {u v : Value} (hp : a.eval p = u) (hx : a.eval x = v)
    (hr : (Instr.storeAt T u v).run P w = .ok () w') (h : wpList P ops Q rest a w') : wpList P ops Q (o :: rest) a w :=
  wpList_plain hgd fun _ hK => by
    unfold Oper.wp execOp
    simp only [ho, Sem.run_bind, Sem.run_pure, Result.andThen_ok, hp, hx, hr]
    exact hK _ _ (by rw [hd]; exact h)
/-- What a function that writes over its argument must do, at any time, for a Spoil. -/
theorem spoil_of {P : Program} {f : FuncId} {x : AV} (hw : Wide x) (he : ∃ fn c, P.funcs[f]? = some fn ∧ (fn.name == "runtime.NumGoroutine") = false ∧ fn.body = some c)
    (h : ∀ (I : Imm) (B : Nat → Prop) (w : World) (v : Value), AR B I x v → Sp I B w → (∀ b, B b → b < w.heap.size) → Calls P f #[v] w fun e w' => e = .returned (.tuple #[]) ∧ SpG I B w w') : Spoil P f x where
  wide := hw
  enters := he
  calls I w v hI hx hz := by
    have hB := hx.least hw (fun b => (∀ M, AR M I x v → M b) ∧ ∃ o u, I b o = some u) fun b h1 h2 => ⟨h1, h2⟩
    refine (h I _ w v hB ⟨fun b o u hb hu => ⟨u, hI b o u hu, hz b hb.1 o u hu, .same u⟩⟩ fun b hb => ?_).mono fun e w' hq => ⟨hq.1, hq.2.fr⟩
    obtain ⟨o, u, hu⟩ := hb.2
    exact World.block_lt_of_cell? w _ (hI b o u hu)
end Go.Proofs.Ytmngjlgeojbghaa.VA
end
section
namespace Go.Proofs.Ytmngjlgeojbghaa.VA
open Go.RowKit

/-- Row by row: what is told of a slice of cells of one kind, in blocks that may be written. -/
def RowAt (I : Imm) (B : Nat → Prop) (ok : Value → Prop) (base : Option Addr) (n : Nat) : Prop :=
  n = 0 ∨ ∃ b o, base = some ⟨b, o, none⟩ ∧ B b ∧ ∀ i, i < n → ∃ u, I b (o + i) = some u ∧ ok u
set_option maxHeartbeats 8000000 in
set_option maxRecDepth 1000000 in
theorem arr21 (a : Array Value) (h : a.size = 21) : ∃ c0 c1 c2 c3 c4 c5 c6 c7 c8 c9 c10 c11 c12 c13 c14 c15 c16 c17 c18 c19 c20, a = #[c0, c1, c2, c3, c4, c5, c6, c7, c8, c9, c10, c11, c12, c13, c14, c15, c16, c17, c18, c19, c20] := by
  rcases a with ⟨l⟩
  match l, h with
  | [c0, c1, c2, c3, c4, c5, c6, c7, c8, c9, c10, c11, c12, c13, c14, c15, c16, c17, c18, c19, c20], _ => exact ⟨c0, c1, c2, c3, c4, c5, c6, c7, c8, c9, c10, c11, c12, c13, c14, c15, c16, c17, c18, c19, c20, rfl⟩
theorem KinV.agg {vs : Array Value} {v' : Value} (h : KinV (.agg vs) v') (hs : 2 ≤ vs.size) : ∃ vs', v' = .agg vs' ∧ vs'.size = vs.size ∧ ∀ (j : Nat) u u', vs[j]? = some u → vs'[j]? = some u' → Kin u u' := by
  obtain ⟨h1, h2⟩ := h
  have h1 : vs.size = v'.cells.size := h1
  cases v' with
  | agg vs' => exact ⟨vs', rfl, h1.symm, h2⟩
  | tuple vs' => simp [Value.cells] at h1; omega
  | _ => simp [Value.cells] at h1; omega
theorem row_at {I : Imm} {B : Nat → Prop} {α : Type} {f : α → AV} {l : List α} {ok : Value → Prop} {u u' : Value} (h : AR B I (.sl true 1 (l.map f)) u) (hk : Kin u u') (hf : ∀ x v, AR B I (f x) v → v.oneCell' = true ∧ ok v) :
    ∃ base n cap, u' = .slice base n cap ∧ n ≤ l.length ∧ RowAt I B ok base n := by
  obtain ⟨base, n, cap, rfl, hr⟩ := row_now h hk
  refine ⟨base, n, cap, rfl, ?_⟩
  rcases hr with rfl | ⟨hn, b, o, rfl, hb, vs, hv, hz, hI⟩
  · exact ⟨Nat.zero_le _, .inl rfl⟩
  · rw [List.length_map] at hn
    refine ⟨by omega, .inr ⟨b, o, rfl, hb, fun i hi => ?_⟩⟩
    have hi' : i < (l.map f).length := by rw [List.length_map]; omega
    obtain ⟨x, ex⟩ : ∃ x, l[i]? = some x := ⟨_, List.getElem?_eq_getElem (by omega)⟩
    obtain ⟨q1, q2⟩ := hf x _ (hv i (f x) (by rw [List.getElem?_map, ex]; rfl))
    refine ⟨vs i, ?_, q2⟩
    have := hI i 0 (vs i) hi' (by rw [cells_one q1]; rfl)
    rw [Nat.mul_one, Nat.add_zero] at this
    exact this
end Go.Proofs.Ytmngjlgeojbghaa.VA
end
section
namespace Go.Proofs.Ytmngjlgeojbghaa.VA
set_option maxRecDepth 10000
set_option maxHeartbeats 4000000

theorem and_mask (x : Nat) (hx : x < 18446744073709551616) : IntKind.u64.wrap ((BitVec.ofInt IntKind.u64.bits (x : Int) &&& BitVec.ofInt IntKind.u64.bits 4294967295).toNat : Int) = ((x % 4294967296 : Nat) : Int) := by
  have e : IntKind.u64.bits = 64 := rfl
  rw [e, show (4294967295 : Int) = ((4294967295 : Nat) : Int) from rfl, ofInt_nat, ofInt_nat, BitVec.toNat_and, BitVec.toNat_ofNat, BitVec.toNat_ofNat, Nat.mod_eq_of_lt (by simpa using hx)]
  have : x &&& 4294967295 % 2 ^ 64 = x % 4294967296 := by
    rw [show (4294967295 % 2 ^ 64 : Nat) = 2 ^ 32 - 1 from rfl, Nat.and_two_pow_sub_one_eq_mod]
  rw [this, wu64 (by omega) (by omega)]
theorem shr32 (x : Nat) : ((x : Int)).fdiv (2 ^ (min 32 IntKind.u64.bits)) = ((x / 4294967296 : Nat) : Int) := by
  rw [show (2 : Int) ^ (min 32 IntKind.u64.bits) = ((4294967296 : Nat) : Int) from by decide, Int.fdiv_eq_ediv_of_nonneg _ (by omega)]
  simp
theorem addw {p q : Nat} (h : p + q < 18446744073709551616) : IntKind.u64.wrap ((p : Int) + q) = ((p + q : Nat) : Int) := by
  rw [IntKind.wrap_u64]; omega
theorem mulw {p q : Nat} (h : p * q < 18446744073709551616) : IntKind.u64.wrap ((p : Int) * q) = ((p * q : Nat) : Int) := by
  rw [IntKind.wrap_u64]; rw [← Int.natCast_mul]; omega
theorem mul64_lo (x y : Nat) : IntKind.u64.wrap ((x : Int) * y) = ((x * y % 18446744073709551616 : Nat) : Int) := by
  rw [IntKind.wrap_u64]; simp
theorem mul_small {x y : Nat} (hx : x < 4294967296) (hy : y < 4294967296) : x * y ≤ 18446744065119617025 := by
  have : x * y ≤ 4294967295 * 4294967295 := Nat.mul_le_mul (by omega) (by omega)
  omega
theorem shr0 (x : Nat) : ((x : Int)).fdiv (2 ^ (min 0 IntKind.u64.bits)) = (x : Int) := by
  rw [show (2 : Int) ^ (min 0 IntKind.u64.bits) = 1 from by decide, Int.fdiv_one]
/-- A digit of 32 bits. -/
def dig (n i : Nat) : Nat := n / 2 ^ (32 * i) % 4294967296
/-! Numbers by their digits. -/
def val (B : Nat) : List Nat → Nat
  | [] => 0
  | a :: l => a + B * val B l
theorem val_set (B : Nat) : ∀ (l : List Nat) (j a v : Nat), l[j]? = some a → val B (l.set j v) + a * B ^ j = val B l + v * B ^ j
  | [], j, a, v, h => by cases h
  | x :: l, 0, a, v, h => by
    simp only [List.getElem?_cons_zero, Option.some.injEq] at h
    subst h
    simp [val]; omega
  | x :: l, j + 1, a, v, h => by
    simp only [List.getElem?_cons_succ] at h
    have ih := val_set B l j a v h
    simp only [List.set_cons_succ, val, Nat.pow_succ]
    have := congrArg (B * ·) ih
    simp only [Nat.mul_add] at this
    have e1 : a * (B ^ j * B) = B * (a * B ^ j) := by rw [← Nat.mul_assoc, Nat.mul_comm]
    have e2 : v * (B ^ j * B) = B * (v * B ^ j) := by rw [← Nat.mul_assoc, Nat.mul_comm]
    omega
theorem val_zero (B n : Nat) : val B (List.replicate n 0) = 0 := by
  induction n with
  | zero => rfl
  | succ n ih => simp [List.replicate_succ, val, ih]
theorem putAt_set {α : Type} (f : α → AV) (l : List α) (j : Nat) (v : α) (h : j < l.length) : putAt (l.map f) j [f v] = (l.set j v).map f := by
  unfold putAt
  rw [List.map_set, List.set_eq_take_append_cons_drop, if_pos (by simpa using h)]
  simp
/-- A digit of a number. -/
def dg (B n i : Nat) : Nat := n / B ^ i % B
theorem dg_step (B n k : Nat) : n % B ^ (k + 1) = n % B ^ k + dg B n k * B ^ k := by
  unfold dg
  rw [Nat.pow_succ, Nat.mod_mul, Nat.mul_comm]
/-- One step of a product, by digits. -/
theorem mac {B V V' P out s c c' x y : Nat} (hs : s + B * c' = out + x * y + c) (hV : V' + out * P = V + s * P) : V' + c' * (P * B) = V + c * P + x * y * P := by
  have := congrArg (· * P) hs
  simp only [Nat.add_mul] at this
  have e : B * c' * P = c' * (P * B) := by rw [Nat.mul_comm B c', Nat.mul_assoc, Nat.mul_comm B P]
  omega
end Go.Proofs.Ytmngjlgeojbghaa.VA
end
section
namespace Go.Proofs.Ytmngjlgeojbghaa.VA
set_option maxRecDepth 10000
set_option maxHeartbeats 8000000

def un (x : Nat) : AV := .int .u64 (x : Int)
/-- What a row of digits is, in the midst of a product. -/
structure Part (B w n m i : Nat) (out : List Nat) (V : Nat) : Prop where
  len : out.length = 2 * w
  lt : ∀ x ∈ out, x < B
  sum : val B out = V
  zero : ∀ j, i + w ≤ j → j < 2 * w → out[j]? = some 0
theorem Part.set {B w n m i V j v a : Nat} {out : List Nat} (h : Part B w n m i out V) (hj : j < i + w) (hv : v < B) (ha : out[j]? = some a) :
    Part B w n m i (out.set j v) (val B (out.set j v)) ∧ val B (out.set j v) + a * B ^ j = V + v * B ^ j := by
  refine ⟨⟨by rw [List.length_set]; exact h.len, fun x hx => ?_, rfl, fun k hk hk2 => ?_⟩, ?_⟩
  · rcases List.mem_or_eq_of_mem_set hx with hx | rfl
    · exact h.lt x hx
    · exact hv
  · rw [List.getElem?_set_ne (by omega)]
    exact h.zero k hk hk2
  · have := val_set B out j a v ha
    rw [h.sum] at this
    exact this
theorem Part.set9 {B w n m i V c : Nat} {out : List Nat} (h : Part B w n m i out V) (hi : i < w) (hc : c < B) :
    Part B w n m (i + 1) (out.set (i + w) c) (val B (out.set (i + w) c)) ∧ val B (out.set (i + w) c) + 0 * B ^ (i + w) = V + c * B ^ (i + w) := by
  refine ⟨⟨by rw [List.length_set]; exact h.len, fun x hx => ?_, rfl, fun k hk hk2 => ?_⟩, ?_⟩
  · rcases List.mem_or_eq_of_mem_set hx with hx | rfl
    · exact h.lt x hx
    · exact hc
  · rw [List.getElem?_set_ne (by omega)]
    exact h.zero k (by omega) hk2
  · have := val_set B out (i + w) 0 c (h.zero (i + w) (by omega) (by omega))
    rw [h.sum] at this
    exact this
theorem dg_lt (B n i : Nat) (hB : 0 < B) : dg B n i < B := Nat.mod_lt _ hB
theorem dig_dg (n i : Nat) : dig n i = dg 4294967296 n i := by
  unfold dig dg
  rw [show (4294967296 : Nat) = 2 ^ 32 from rfl, ← Nat.pow_mul]

theorem step_val {B n m i k c V V' : Nat} (hB : 0 < B) (h1 : V + c * B ^ (i + k) = n % B ^ i * m + dg B n i * (m % B ^ k) * B ^ i) {c' : Nat} (h2 : V' + c' * (B ^ (i + k) * B) = V + c * B ^ (i + k) + dg B n i * dg B m k * B ^ (i + k)) :
    V' + c' * B ^ (i + (k + 1)) = n % B ^ i * m + dg B n i * (m % B ^ (k + 1)) * B ^ i := by
  rw [dg_step, Nat.mul_add, Nat.add_mul]
  have e1 : dg B n i * (dg B m k * B ^ k) * B ^ i = dg B n i * dg B m k * B ^ (i + k) := by
    rw [Nat.pow_add, Nat.mul_comm (B ^ i), ← Nat.mul_assoc, ← Nat.mul_assoc]
  rw [e1, show i + (k + 1) = (i + k) + 1 from rfl, Nat.pow_succ]
  omega
theorem row_val {B n m i w V c V' : Nat} (hm : m < B ^ w) (h1 : V + c * B ^ (i + w) = n % B ^ i * m + dg B n i * (m % B ^ w) * B ^ i) (h2 : V' + 0 * B ^ (i + w) = V + c * B ^ (i + w)) : V' = n % B ^ (i + 1) * m := by
  rw [Nat.mod_eq_of_lt hm] at h1
  rw [dg_step, Nat.add_mul]
  have : dg B n i * B ^ i * m = dg B n i * m * B ^ i := by rw [Nat.mul_assoc, Nat.mul_comm (B ^ i), ← Nat.mul_assoc]
  omega

theorem put_set {α : Type} (f : α → AV) (l : List α) (j : Nat) (v : α) (h : j < l.length) : List.take j (l.map f) ++ [f v] ++ List.drop (j + 1) (l.map f) = (l.set j v).map f := by
  rw [List.map_set, List.set_eq_take_append_cons_drop, if_pos (by simpa using h), List.append_assoc]
  rfl
theorem or_dig0 {a : Nat} (ha : a < 4294967296) : IntKind.u64.wrap ((BitVec.ofInt IntKind.u64.bits 0 ||| BitVec.ofInt IntKind.u64.bits (IntKind.u64.wrap ((a : Int) * 2 ^ (min 0 IntKind.u64.bits)))).toNat : Int) = (a : Int) := by
  have e : IntKind.u64.bits = 64 := rfl
  have e1 : IntKind.u64.wrap ((a : Int) * 2 ^ (min 0 64)) = a := by
    rw [show (2 : Int) ^ (min 0 64) = 1 from by decide, Int.mul_one, wu64 (by omega) (by omega)]
  rw [e, e1, show BitVec.ofInt 64 0 = 0#64 from rfl, BitVec.zero_or, ofInt_nat, BitVec.toNat_ofNat, Nat.mod_eq_of_lt (by omega)]
  exact wu64 (by omega) (by omega)
theorem or_dig {a b : Nat} (ha : a < 4294967296) (hb : b < 4294967296) : IntKind.u64.wrap ((BitVec.ofInt IntKind.u64.bits (a : Int) ||| BitVec.ofInt IntKind.u64.bits (IntKind.u64.wrap ((b : Int) * 2 ^ (min 32 IntKind.u64.bits)))).toNat : Int) = ((a + 4294967296 * b : Nat) : Int) := by
  have e : IntKind.u64.bits = 64 := rfl
  rw [e, show (2 : Int) ^ (min 32 64) = ((4294967296 : Nat) : Int) from by decide, mulw (by omega), ofInt_nat, ofInt_nat, BitVec.toNat_or, BitVec.toNat_ofNat, BitVec.toNat_ofNat, Nat.mod_eq_of_lt (by omega), Nat.mod_eq_of_lt (by omega)]
  have e4 : a ||| b * 4294967296 = a + 4294967296 * b := by
    have := Nat.two_pow_add_eq_or_of_lt (i := 32) (show a < 2 ^ 32 by omega) b
    rw [Nat.or_comm, Nat.mul_comm b]
    rw [show (2 : Nat) ^ 32 = 4294967296 from rfl] at this
    omega
  rw [e4, wu64 (by omega) (by omega)]
theorem sixteen {l : List Nat} (h : l.length = 16) : ∃ o0 o1 o2 o3 o4 o5 o6 o7 o8 o9 o10 o11 o12 o13 o14 o15, l = [o0, o1, o2, o3, o4, o5, o6, o7, o8, o9, o10, o11, o12, o13, o14, o15] := by
  match l, h with
  | [o0, o1, o2, o3, o4, o5, o6, o7, o8, o9, o10, o11, o12, o13, o14, o15], _ => exact ⟨o0, o1, o2, o3, o4, o5, o6, o7, o8, o9, o10, o11, o12, o13, o14, o15, rfl⟩
theorem val_ge (B : Nat) : ∀ (l : List Nat) (j a : Nat), l[j]? = some a → a * B ^ j ≤ val B l
  | [], j, a, h => by cases h
  | x :: l, 0, a, h => by
    simp only [List.getElem?_cons_zero, Option.some.injEq] at h
    subst h
    simp [val]
  | x :: l, j + 1, a, h => by
    simp only [List.getElem?_cons_succ] at h
    have ih := Nat.mul_le_mul_left B (val_ge B l j a h)
    simp only [val, Nat.pow_succ]
    have e1 : a * (B ^ j * B) = B * (a * B ^ j) := by rw [← Nat.mul_assoc, Nat.mul_comm]
    omega
theorem val_big (hU : U = 4294967296 ^ 8) {l : List Nat} {p j a : Nat} (hs : val 4294967296 l = p) (hj : 8 ≤ j) (h : l[j]? = some a) (ha : 0 < a) : ¬ p < U := by
  have h1 := val_ge 4294967296 l j a h
  have h2 : 4294967296 ^ 8 ≤ 4294967296 ^ j := Nat.pow_le_pow_right (by decide) hj
  have h3 : 1 * 4294967296 ^ j ≤ a * 4294967296 ^ j := Nat.mul_le_mul_right _ ha
  rw [hU]; omega
theorem val_small (hU : U = 4294967296 ^ 8) {o0 o1 o2 o3 o4 o5 o6 o7 o8 o9 o10 o11 o12 o13 o14 o15 p : Nat} (hs : val 4294967296 [o0, o1, o2, o3, o4, o5, o6, o7, o8, o9, o10, o11, o12, o13, o14, o15] = p)
    (b0 : o0 < 4294967296) (b1 : o1 < 4294967296) (b2 : o2 < 4294967296) (b3 : o3 < 4294967296) (b4 : o4 < 4294967296) (b5 : o5 < 4294967296) (b6 : o6 < 4294967296) (b7 : o7 < 4294967296)
    (z8 : o8 = 0) (z9 : o9 = 0) (z10 : o10 = 0) (z11 : o11 = 0) (z12 : o12 = 0) (z13 : o13 = 0) (z14 : o14 = 0) (z15 : o15 = 0) :
    p < U ∧ p = o0 + 4294967296 * o1 + 18446744073709551616 * (o2 + 4294967296 * o3) + 340282366920938463463374607431768211456 * (o4 + 4294967296 * o5) + 6277101735386680763835789423207666416102355444464034512896 * (o6 + 4294967296 * o7) := by
  subst z8 z9 z10 z11 z12 z13 z14 z15
  simp only [val, Nat.mul_zero, Nat.add_zero] at hs
  unfold U
  constructor <;> omega
end Go.Proofs.Ytmngjlgeojbghaa.VA
end
section
namespace Go.Proofs.Ytmngjlgeojbghaa.VA
set_option maxRecDepth 10000
set_option maxHeartbeats 8000000

theorem lim_dg (n i : Nat) : lim n i = ((dg 18446744073709551616 n i : Nat) : Int) := by
  unfold lim dg
  rw [show (18446744073709551616 : Nat) = 2 ^ 64 from rfl, ← Nat.pow_mul]
theorem u_dg (n : Nat) : u n = .agg [.int .u64 ((dg 18446744073709551616 n 0 : Nat) : Int), .int .u64 ((dg 18446744073709551616 n 1 : Nat) : Int), .int .u64 ((dg 18446744073709551616 n 2 : Nat) : Int), .int .u64 ((dg 18446744073709551616 n 3 : Nat) : Int)] := by
  unfold u
  rw [lim_dg, lim_dg, lim_dg, lim_dg]
theorem dg_get (B n i : Nat) (hi : i < 4) : [AV.int .u64 ((dg B n 0 : Nat) : Int), .int .u64 ((dg B n 1 : Nat) : Int), .int .u64 ((dg B n 2 : Nat) : Int), .int .u64 ((dg B n 3 : Nat) : Int)][i]? = some (AV.int .u64 ((dg B n i : Nat) : Int)) := by
  have : i = 0 ∨ i = 1 ∨ i = 2 ∨ i = 3 := by omega
  rcases this with rfl | rfl | rfl | rfl <;> rfl
theorem adS0 (x y : Nat) : adS x y 0 = (((x + y) % 18446744073709551616 : Nat) : Int) := by unfold adS; omega
theorem adC0 (x y : Nat) : adC x y 0 = (((x + y) / 18446744073709551616 : Nat) : Int) := by unfold adC; omega
theorem mul_full {x y : Nat} (hx : x < 18446744073709551616) (hy : y < 18446744073709551616) : x * y ≤ 340282366920938463426481119284349108225 := by
  have : x * y ≤ 18446744073709551615 * 18446744073709551615 := Nat.mul_le_mul (by omega) (by omega)
  omega
/-- One step: the sum and what is carried. -/
theorem limb_step {p o c : Nat} (hp : p ≤ 340282366920938463426481119284349108225) (ho : o < 18446744073709551616) (hc : c < 18446744073709551616) :
    p / 18446744073709551616 + (p % 18446744073709551616 + o) / 18446744073709551616 < 18446744073709551616 ∧
    p / 18446744073709551616 + (p % 18446744073709551616 + o) / 18446744073709551616 + ((p % 18446744073709551616 + o) % 18446744073709551616 + c) / 18446744073709551616 < 18446744073709551616 ∧
    ((p % 18446744073709551616 + o) % 18446744073709551616 + c) % 18446744073709551616 + 18446744073709551616 * (p / 18446744073709551616 + (p % 18446744073709551616 + o) / 18446744073709551616 + ((p % 18446744073709551616 + o) % 18446744073709551616 + c) / 18446744073709551616) = o + p + c := by
  refine ⟨by omega, by omega, by omega⟩

theorem eightL {α : Type} {s : List α} (h : s.length = 2 * 4) : ∃ a b c d e f g i, s = [a, b, c, d, e, f, g, i] := by
  match s, h with
  | [a, b, c, d, e, f, g, i], _ => exact ⟨a, b, c, d, e, f, g, i, rfl⟩
theorem or_nat {a b : Nat} (ha : a < 18446744073709551616) (hb : b < 18446744073709551616) : IntKind.u64.wrap ((BitVec.ofInt IntKind.u64.bits (a : Int) ||| BitVec.ofInt IntKind.u64.bits (b : Int)).toNat : Int) = ((a ||| b : Nat) : Int) ∧ (a ||| b) < 18446744073709551616 := by
  have e : IntKind.u64.bits = 64 := rfl
  have h : (a ||| b) < 2 ^ 64 := Nat.or_lt_two_pow ha hb
  rw [e, ofInt_nat, ofInt_nat, BitVec.toNat_or, BitVec.toNat_ofNat, BitVec.toNat_ofNat, Nat.mod_eq_of_lt (by omega), Nat.mod_eq_of_lt (by omega)]
  exact ⟨wu64 (by omega) (by omega), h⟩
theorem or_ne {a b c d : Nat} : ((((((a ||| b) ||| c) ||| d : Nat) : Int) != 0) = true → 0 < a ∨ 0 < b ∨ 0 < c ∨ 0 < d) ∧ ((((((a ||| b) ||| c) ||| d : Nat) : Int) != 0) = false → a = 0 ∧ b = 0 ∧ c = 0 ∧ d = 0) := by
  simp only [bne_iff_ne, ne_eq, bne_eq_false_iff_eq, Int.natCast_eq_zero, Nat.or_eq_zero_iff]
  constructor
  · intro h; omega
  · intro h; omega
end Go.Proofs.Ytmngjlgeojbghaa.VA
end
section
namespace Go.Proofs.Ytmngjlgeojbghaa.VA
set_option maxRecDepth 10000

def markStep (m : Int) (b : UInt8) : Int := IntKind.u64.wrap (IntKind.u64.wrap ((BitVec.ofInt 64 m ^^^ BitVec.ofInt 64 (IntKind.u64.wrap (b.toNat : Int))).toNat) * 1099511628211)
def markFrom' (m : Int) (s : List UInt8) : Int := s.foldl markStep m
def markOf (s : List UInt8) : Int := markFrom' 14695981039346656037 s

theorem mark_take (m : Int) (s : List UInt8) (i : Nat) (b : UInt8) (h : s[i]? = some b) : markFrom' m (s.take (i + 1)) = markStep (markFrom' m (s.take i)) b := by
  unfold markFrom'
  rw [List.take_add_one, h, List.foldl_append]
  rfl

def takeStep (m : Int) (b : UInt8) : Int := IntKind.u64.wrap ((BitVec.ofInt IntKind.u64.bits (IntKind.u64.wrap (m * 2 ^ (min 8 IntKind.u64.bits))) ||| BitVec.ofInt IntKind.u64.bits (IntKind.u64.wrap (b.toNat : Int))).toNat)
def takeOf (s : List UInt8) : Int × Bool := if s.length = 8 then (s.foldl takeStep 0, true) else (0, false)
theorem eight {α : Type} {s : List α} (h : s.length = 8) : ∃ a b c d e f g i, s = [a, b, c, d, e, f, g, i] := by
  match s, h with
  | [a, b, c, d, e, f, g, i], _ => exact ⟨a, b, c, d, e, f, g, i, rfl⟩

def byteAt (m : Int) (k : Int) : UInt8 := UInt8.ofNat (IntKind.u8.wrap (m.fdiv (2 ^ (min k.toNat IntKind.u64.bits)))).toNat
def textOf (m : Int) : List UInt8 := [byteAt m 56, byteAt m 48, byteAt m 40, byteAt m 32, byteAt m 24, byteAt m 16, byteAt m 8, byteAt m 0]

end Go.Proofs.Ytmngjlgeojbghaa.VA
end
section
namespace Go.Proofs.Ytmngjlgeojbghaa.VA
set_option maxRecDepth 10000

theorem takeStep_nat (m : Nat) (b : UInt8) (hm : m < 72057594037927936) : takeStep (m : Int) b = ((m * 256 + b.toNat : Nat) : Int) := by
  have hb : b.toNat < 256 := b.toNat_lt
  have h8 : (2 : Int) ^ (min 8 IntKind.u64.bits) = 256 := by decide
  unfold takeStep
  rw [h8, wu64 (x := (m : Int) * 256) (by omega) (by omega), wu64 (x := (b.toNat : Int)) (by omega) (by omega)]
  have e1 : ((m : Int) * 256) = ((m * 256 : Nat) : Int) := by simp
  rw [e1, show IntKind.u64.bits = 64 from rfl, ofInt_nat, ofInt_nat, BitVec.toNat_or]
  have e2 : (BitVec.ofNat 64 (m * 256)).toNat = m * 256 := by rw [BitVec.toNat_ofNat]; omega
  have e3 : (BitVec.ofNat 64 b.toNat).toNat = b.toNat := by rw [BitVec.toNat_ofNat]; omega
  rw [e2, e3]
  have e4 : m * 256 ||| b.toNat = m * 256 + b.toNat := by
    have := Nat.two_pow_add_eq_or_of_lt (i := 8) hb m
    rw [Nat.mul_comm m 256]
    exact this.symm
  rw [e4, wu64 (by omega) (by omega)]
theorem byteAt_nat (m : Nat) (k j : Nat) (hk : k ≤ 64) (hj : 2 ^ k = j) : (byteAt (m : Int) (k : Int)).toNat = m / j % 256 := by
  unfold byteAt
  have e0 : min ((k : Int)).toNat IntKind.u64.bits = k := by rw [Int.toNat_natCast]; exact Nat.min_eq_left hk
  rw [e0]
  have e1 : ((m : Int)).fdiv (2 ^ k) = ((m / j : Nat) : Int) := by
    rw [← hj, Int.fdiv_eq_ediv_of_nonneg _ (by exact Int.le_of_lt (Int.pow_pos (by decide)))]
    simp
  rw [e1, IntKind.wrap_u8]
  have e2 : (((m / j : Nat) : Int) % 256).toNat = m / j % 256 := by omega
  rw [e2]
  simp
theorem take_step (q : Nat) (hq : q < 18446744073709551616) (b : UInt8) (hb : b.toNat = q % 256) (p : Nat) (hp : p = q / 256) : takeStep (p : Int) b = (q : Int) := by
  subst hp
  rw [takeStep_nat _ _ (by omega), hb]
  congr 1
  omega
theorem take_text (m : Nat) (hm : m < 18446744073709551616) : takeOf (textOf (m : Int)) = ((m : Int), true) := by
  unfold takeOf textOf
  rw [if_pos (show [byteAt (m : Int) 56, byteAt m 48, byteAt m 40, byteAt m 32, byteAt m 24, byteAt m 16, byteAt m 8, byteAt m 0].length = 8 from rfl)]
  simp only [List.foldl_cons, List.foldl_nil]
  have lt : ∀ k, m / k < 18446744073709551616 := fun k => Nat.lt_of_le_of_lt (Nat.div_le_self m k) hm
  have dd : ∀ k, m / (k * 256) = m / k / 256 := fun k => (Nat.div_div_eq_div_mul m k 256).symm
  have s7 := take_step (m / 72057594037927936) (lt _) (byteAt m 56) (byteAt_nat m 56 _ (by omega) (by decide)) 0 (by omega)
  have s6 := take_step (m / 281474976710656) (lt _) (byteAt m 48) (byteAt_nat m 48 _ (by omega) (by decide)) (m / 72057594037927936) (dd 281474976710656)
  have s5 := take_step (m / 1099511627776) (lt _) (byteAt m 40) (byteAt_nat m 40 _ (by omega) (by decide)) (m / 281474976710656) (dd 1099511627776)
  have s4 := take_step (m / 4294967296) (lt _) (byteAt m 32) (byteAt_nat m 32 _ (by omega) (by decide)) (m / 1099511627776) (dd 4294967296)
  have s3 := take_step (m / 16777216) (lt _) (byteAt m 24) (byteAt_nat m 24 _ (by omega) (by decide)) (m / 4294967296) (dd 16777216)
  have s2 := take_step (m / 65536) (lt _) (byteAt m 16) (byteAt_nat m 16 _ (by omega) (by decide)) (m / 16777216) (dd 65536)
  have s1 := take_step (m / 256) (lt _) (byteAt m 8) (byteAt_nat m 8 _ (by omega) (by decide)) (m / 65536) (dd 256)
  have s0 := take_step m hm (byteAt m 0) (by rw [show (0 : Int) = ((0 : Nat) : Int) from rfl, byteAt_nat m 0 1 (by omega) (by decide), Nat.div_one]) (m / 256) rfl
  rw [show takeStep 0 (byteAt (m : Int) 56) = takeStep ((0 : Nat) : Int) (byteAt (m : Int) 56) from rfl, s7, s6, s5, s4, s3, s2, s1, s0]

theorem markFrom_range (s : List UInt8) : ∀ m : Int, 0 ≤ m → m < 18446744073709551616 → 0 ≤ markFrom' m s ∧ markFrom' m s < 18446744073709551616 := by
  induction s with
  | nil => intro m h1 h2; exact ⟨h1, h2⟩
  | cons b s ih => intro m h1 h2; exact ih _ (u64_range _).1 (u64_range _).2
theorem take_text_mark (s : List UInt8) : takeOf (textOf (markOf s)) = (markOf s, true) := by
  obtain ⟨h1, h2⟩ := markFrom_range s 14695981039346656037 (by decide) (by decide)
  have := take_text (markOf s).toNat (by unfold markOf; omega)
  have e : ((markOf s).toNat : Int) = markOf s := Int.toNat_of_nonneg h1
  rw [e] at this
  exact this
end Go.Proofs.Ytmngjlgeojbghaa.VA
end
section
namespace Go.Proofs.Ytmngjlgeojbghaa.VA
set_option maxRecDepth 10000
set_option maxHeartbeats 4000000

def hashOf (s : List UInt8) : Int := markOf ([98, 108, 111, 98] ++ s)
def gasOf (n : Int) : Int := if n < 1 ∨ n > 4 then 0 else n * 131072
def gasErr (n : Int) : Int := if n < 1 ∨ n > 4 then 1 else 0
/-- What the hashes of blobs, one by one, are unlike. -/
def unlike : List Int → List (List UInt8) → Bool
  | h :: hs, b :: bs => (hashOf b != h) || unlike hs bs
  | _, _ => false
theorem unlike_take : ∀ (hs : List Int) (bs : List (List UInt8)) (i : Nat) (h : Int) (b : List UInt8), hs[i]? = some h → bs[i]? = some b → unlike (hs.take (i + 1)) (bs.take (i + 1)) = (unlike (hs.take i) (bs.take i) || hashOf b != h)
  | [], _, i, h, b, e, _ => by cases e
  | _ :: _, [], i, h, b, _, e => by cases e
  | x :: hs, y :: bs, 0, h, b, e1, e2 => by
    simp only [List.getElem?_cons_zero, Option.some.injEq] at e1 e2
    subst e1; subst e2
    simp [unlike]
  | x :: hs, y :: bs, i + 1, h, b, e1, e2 => by
    simp only [List.getElem?_cons_succ] at e1 e2
    have ih := unlike_take hs bs i h b e1 e2
    simp only [List.take_succ_cons, unlike] at ih ⊢
    rw [ih, Bool.or_assoc]
theorem unlike_of : ∀ {hs : List Int} {bs : List (List UInt8)} {i : Nat}, unlike (hs.take i) (bs.take i) = true → unlike hs bs = true
  | [], _, i, h => by simp [unlike] at h
  | _ :: _, [], i, h => by simp [unlike] at h
  | x :: hs, y :: bs, 0, h => by simp [unlike] at h
  | x :: hs, y :: bs, i + 1, h => by
    simp only [List.take_succ_cons, unlike, Bool.or_eq_true] at h ⊢
    rcases h with h | h
    · exact .inl h
    · exact .inr (unlike_of h)
def tooLong (bs : List (List UInt8)) : Bool := bs.any fun b => decide (b.length > 64)
theorem tooLong_take (bs : List (List UInt8)) (i : Nat) (b : List UInt8) (e : bs[i]? = some b) : tooLong (bs.take (i + 1)) = (tooLong (bs.take i) || decide (b.length > 64)) := by
  unfold tooLong
  rw [List.take_add_one, e, List.any_append]
  simp
theorem tooLong_of {bs : List (List UInt8)} {i : Nat} {b : List UInt8} (e : bs[i]? = some b) (h : b.length > 64) : tooLong bs = true := by
  unfold tooLong
  rw [List.any_eq_true]
  exact ⟨b, List.mem_of_getElem? e, by simpa using h⟩
def badFit (hs : List Int) (bs : List (List UInt8)) : Bool := decide (bs.length < 1) || decide (bs.length > 4) || decide (hs.length ≠ bs.length)
/-- Whether hashes fit blobs: the error. -/
def fitsOf (hs : List Int) (bs : List (List UInt8)) : Int := if badFit hs bs = true then 1 else if tooLong bs = true then 2 else if unlike hs bs = true then 1 else 0

end Go.Proofs.Ytmngjlgeojbghaa.VA
end
section
namespace Go.Proofs.Ytmngjlgeojbghaa.VA
set_option maxRecDepth 10000
set_option maxHeartbeats 8000000

structure TxD where
  frm : Int
  nonce : Int
  tip : Nat
  cap : Nat
  bcap : Nat
  value : Nat
  gas : Int
  hashes : List Int
  blobs : List (List UInt8)
def TxD.cells (t : TxD) : List AV := [.int .i64 t.frm, .int .i64 t.nonce, .int .u64 (lim t.tip 0), .int .u64 (lim t.tip 1), .int .u64 (lim t.tip 2), .int .u64 (lim t.tip 3),
  .int .u64 (lim t.cap 0), .int .u64 (lim t.cap 1), .int .u64 (lim t.cap 2), .int .u64 (lim t.cap 3), .int .u64 (lim t.bcap 0), .int .u64 (lim t.bcap 1), .int .u64 (lim t.bcap 2), .int .u64 (lim t.bcap 3),
  .int .u64 (lim t.value 0), .int .u64 (lim t.value 1), .int .u64 (lim t.value 2), .int .u64 (lim t.value 3), .int .i64 t.gas, ints .u64 t.hashes, strs t.blobs]
def TxD.av (t : TxD) : AV := .agg t.cells
theorem TxD.plain (t : TxD) : Plain t.av := .agg _ fun c hc => by
  simp only [TxD.cells, List.mem_cons, List.not_mem_nil, or_false] at hc
  rcases hc with rfl | rfl | rfl | rfl | rfl | rfl | rfl | rfl | rfl | rfl | rfl | rfl | rfl | rfl | rfl | rfl | rfl | rfl | rfl | rfl | rfl <;> first | exact .int _ _ | exact ints_plain _ _ | exact strs_plain _
/-- What data of a transaction may be at all. -/
structure TxD.ok (t : TxD) : Prop where
  frm : -9223372036854775808 ≤ t.frm ∧ t.frm ≤ 9223372036854775807
  nonce : -9223372036854775808 ≤ t.nonce ∧ t.nonce ≤ 9223372036854775807
  gas : -9223372036854775808 ≤ t.gas ∧ t.gas ≤ 9223372036854775807
  tip : t.tip < U
  cap : t.cap < U
  bcap : t.bcap < U
  value : t.value < U
  hashes : t.hashes.length * 8 ≤ reachBytes
  blobs : t.blobs.length * 16 ≤ reachBytes
  blob : ∀ b ∈ t.blobs, b.length ≤ reachBytes

def costOf (t : TxD) : Nat := t.cap * t.gas.toNat + t.bcap * (131072 * t.blobs.length) + t.value
theorem eq_of_bne {x : Int} (h : (x != 0) = false) : x = 0 := by simpa using h
theorem res_cases {f : FuncId} {args : List AV} (A : Nat) (h : Contract Try.prog f args (.tup [u (if A < U then A else 0), .int .i64 (if A < U then 0 else 8)])) :
    ∃ (x : Nat) (e : Int), x < U ∧ (e = 0 ∧ x = A ∨ e = 8 ∧ U ≤ A) ∧ Contract Try.prog f args (.tup [u x, .int .i64 e]) := by
  refine ⟨_, _, ?_, ?_, h⟩
  · split
    · assumption
    · decide
  · by_cases hA : A < U
    · rw [if_pos hA, if_pos hA]; exact .inl ⟨rfl, rfl⟩
    · rw [if_neg hA, if_neg hA]; exact .inr ⟨rfl, by omega⟩
/-! The page's own answer. -/
theorem res_casesB {f : FuncId} {args : List AV} (A : Nat) (h : Contract Try.prog f args (.tup [u (if A < U then A else 0), .bool (decide (A < U))])) :
    ∃ (x : Nat) (e : Bool), x < U ∧ (e = true ∧ x = A ∧ A < U ∨ e = false ∧ U ≤ A) ∧ (e = false → x = 0) ∧ Contract Try.prog f args (.tup [u x, .bool e]) := by
  refine ⟨_, _, ?_, ?_, fun e => if_neg (of_decide_eq_false e), h⟩
  · split
    · assumption
    · decide
  · by_cases hA : A < U
    · rw [if_pos hA, decide_eq_true hA]; exact .inl ⟨rfl, rfl, hA⟩
    · rw [if_neg hA, decide_eq_false hA]; exact .inr ⟨rfl, by omega⟩
/-! Which transactions may be. -/
def validTx (t : TxD) : Bool := decide (0 ≤ t.frm) && decide (t.frm < 8) && (decide (0 ≤ t.nonce) && decide (t.nonce ≤ 1099511627776)) && (decide (0 ≤ t.gas) && decide (t.gas ≤ 1073741824)) && decide (t.tip ≤ t.cap) && decide (fitsOf t.hashes t.blobs = 0) && decide (costOf t < U)
theorem fits_len {hs : List Int} {bs : List (List UInt8)} (h : fitsOf hs bs = 0) : 1 ≤ bs.length ∧ bs.length ≤ 4 ∧ hs.length = bs.length := by
  unfold fitsOf at h
  cases hb : badFit hs bs with
  | true => rw [hb] at h; cases h
  | false =>
    simp only [badFit, Bool.or_eq_false_iff, decide_eq_false_iff_not, ne_eq, Decidable.not_not] at hb
    omega
theorem cmp_le {n m : Nat} : decide (cmpOf n m > 0) = !decide (n ≤ m) := by
  unfold cmpOf
  rw [Bool.eq_iff_iff]
  simp only [decide_eq_true_eq, Bool.not_eq_true', decide_eq_false_iff_not]
  split <;> (try split) <;> omega

theorem cmp_lt {n m : Nat} : decide (cmpOf n m < 0) = decide (n < m) := by
  unfold cmpOf
  rw [Bool.eq_iff_iff]
  simp only [decide_eq_true_eq]
  split <;> (try split) <;> omega
end Go.Proofs.Ytmngjlgeojbghaa.VA
end
section
namespace Go.Proofs.Ytmngjlgeojbghaa.VA
set_option maxRecDepth 10000
set_option maxHeartbeats 8000000

end Go.Proofs.Ytmngjlgeojbghaa.VA
end
section
namespace Go.Proofs.Ytmngjlgeojbghaa.VA
set_option maxRecDepth 10000
set_option maxHeartbeats 4000000

end Go.Proofs.Ytmngjlgeojbghaa.VA
end
section
namespace Go.Proofs.Ytmngjlgeojbghaa.VA
set_option maxRecDepth 10000
set_option maxHeartbeats 8000000

def TxD.dull (t : TxD) : AV := .agg [.int .i64 t.frm, .int .i64 t.nonce, .int .u64 (lim t.tip 0), .int .u64 (lim t.tip 1), .int .u64 (lim t.tip 2), .int .u64 (lim t.tip 3), .int .u64 (lim t.cap 0), .int .u64 (lim t.cap 1), .int .u64 (lim t.cap 2), .int .u64 (lim t.cap 3), .int .u64 (lim t.bcap 0), .int .u64 (lim t.bcap 1), .int .u64 (lim t.bcap 2), .int .u64 (lim t.bcap 3), .int .u64 (lim t.value 0), .int .u64 (lim t.value 1), .int .u64 (lim t.value 2), .int .u64 (lim t.value 3), .int .i64 t.gas, .sl true 1 (t.hashes.map (AV.int .u64)), .sl true 1 (t.blobs.map AV.str)]
theorem TxD.dull_av (t : TxD) : Dull t.dull t.av := by
  refine dulls_agg ?_
  repeat' (first | exact Dulls.nil | exact Dull.refl _ | exact dsl _ _ _ | refine Dulls.cons ?_ ?_)
/-- How much the texts of a transaction weigh. -/
def weigh : Int → List (List UInt8) → Int
  | n, [] => n
  | n, b :: bs => if n < 1048576 then weigh (n + b.length) bs else n
def weightOf (t : TxD) : Int := weigh (1 + t.hashes.length + t.blobs.length) t.blobs
theorem weigh_drop {n : Int} {bs : List (List UInt8)} {i : Nat} {b : List UInt8} (e : bs[i]? = some b) (h : n < 1048576) : weigh n (bs.drop i) = weigh (n + b.length) (bs.drop (i + 1)) := by
  obtain ⟨hi, rfl⟩ := List.getElem?_eq_some_iff.1 e
  rw [← List.getElem_cons_drop hi]
  simp only [weigh, if_pos h]
theorem weigh_end {n : Int} {bs : List (List UInt8)} (h : ¬ n < 1048576) : weigh n bs = n := by
  cases bs with
  | nil => rfl
  | cons b bs => simp only [weigh, if_neg h]
theorem weigh_bounds (bs : List (List UInt8)) (hb : ∀ b ∈ bs, b.length ≤ reachBytes) : ∀ n : Int, 0 ≤ n → n ≤ 281474976710656 → 0 ≤ weigh n bs ∧ weigh n bs ≤ 281474976710656 := by
  induction bs with
  | nil => intro n h1 h2; exact ⟨h1, h2⟩
  | cons b bs ih =>
    intro n h1 h2
    simp only [weigh]
    have := hb b (by simp)
    unfold reachBytes at this
    split
    · exact ih (fun x hx => hb x (List.mem_cons_of_mem _ hx)) _ (by omega) (by omega)
    · exact ⟨h1, h2⟩
theorem weightOf_bounds (t : TxD) (h : t.ok) : 0 ≤ weightOf t ∧ weightOf t ≤ 281474976710656 := by
  have h1 := h.hashes
  have h2 := h.blobs
  unfold reachBytes at h1 h2
  exact weigh_bounds _ h.blob _ (by omega) (by omega)
theorem lims_small (g : Nat) (hg : g < 18446744073709551616) : lim g 0 = g ∧ lim g 1 = 0 ∧ lim g 2 = 0 ∧ lim g 3 = 0 := by
  have h := u_small g hg
  unfold u at h
  injection h with h
  injection h with h0 h
  injection h with h1 h
  injection h with h2 h
  injection h with h3 h
  injection h0 with _ h0
  injection h1 with _ h1
  injection h2 with _ h2
  injection h3 with _ h3
  exact ⟨h0, h1, h2, h3⟩
/-- A plain transaction. -/
def plainTx (f n : Int) (p : Nat) : TxD := ⟨f, n, p, 2 * p, p, 0, 1, [hashOf [98]], [[98]]⟩
theorem plain_ok (f n : Int) (p : Nat) (hf : -9223372036854775808 ≤ f ∧ f ≤ 9223372036854775807) (hn : -9223372036854775808 ≤ n ∧ n ≤ 9223372036854775807) (hp : 2 * p < 18446744073709551616) : (plainTx f n p).ok :=
  ⟨hf, hn, by simp only [plainTx]; omega, by simp only [plainTx, U]; omega, by simp only [plainTx, U]; omega, by simp only [plainTx, U]; omega, by simp only [plainTx, U]; omega, by simp only [plainTx, reachBytes]; decide, by simp only [plainTx, reachBytes]; decide, fun b hb => by
    simp only [plainTx, List.mem_singleton] at hb
    subst hb; unfold reachBytes; decide⟩
end Go.Proofs.Ytmngjlgeojbghaa.VA
end
section
namespace Go.Proofs.Ytmngjlgeojbghaa.VA
open Go.RowKit

theorem dull_wide (t : TxD) : Wide t.dull := .agg _ fun c hc => by
  simp only [List.mem_cons, List.not_mem_nil, or_false] at hc
  rcases hc with rfl | rfl | rfl | rfl | rfl | rfl | rfl | rfl | rfl | rfl | rfl | rfl | rfl | rfl | rfl | rfl | rfl | rfl | rfl | rfl | rfl <;> first | exact .int _ _ | exact .sl _ _ _ (by decide) (fun c hc => by obtain ⟨x, _, rfl⟩ := List.mem_map.1 hc; first | exact .int _ _ | exact .str _)
theorem kinV_refl (v : Value) : KinV v v := ⟨rfl, fun j u u' h1 h2 => by rw [h1] at h2; cases h2; exact .same _⟩
/-- What an element's cells may turn to. -/
inductive KZ : AV → Value → Prop
  | int (k : IntKind) (n m : Int) : KZ (.int k n) (.int k m)
  | str (s : List UInt8) (t : ByteArray) : KZ (.str s) (.string t)
  | bool (a b : Bool) : KZ (.bool a) (.bool b)
  | sl (fr : Bool) (sz : Nat) (es : List AV) : KZ (.sl fr sz es) (.slice none 0 0)
theorem KZ.kin {M : Nat → Prop} {I : Imm} {c : AV} {u z : Value} (h : KZ c z) (ha : AR M I c u) : Kin u z := by
  cases h with
  | int k n m => cases ha; exact .int _ _ _
  | str s t => cases ha; exact .str _ _
  | bool a b => cases ha; exact .bool _ _
  | sl fr sz es => cases ha <;> exact .nil _ _ _
theorem kz_nil : ∀ (j : Nat) c z, ([] : List AV)[j]? = some c → ([] : List Value)[j]? = some z → KZ c z := fun j c z h => by cases h
theorem kz_cons {x : AV} {z : Value} {xs : List AV} {zs : List Value} (h : KZ x z) (hr : ∀ (j : Nat) c z, xs[j]? = some c → zs[j]? = some z → KZ c z) : ∀ (j : Nat) c u, (x :: xs)[j]? = some c → (z :: zs)[j]? = some u → KZ c u := fun j c u hc hu => by
  cases j with
  | zero =>
    simp only [List.getElem?_cons_zero, Option.some.injEq] at hc hu
    subst hc hu; exact h
  | succ j => exact hr j c u (by simpa using hc) (by simpa using hu)
/-- The cells of an element, as they stand now. -/
theorem elem_now {I : Imm} {B : Nat → Prop} {w0 w : World} (h : SpG I B w0 w) {b off sz : Nat} {v : Value} (hb : B b) (hs : v.cells.size = sz) (hI : ∀ (j : Nat) c, v.cells[j]? = some c → I b (off + j) = some c) :
    ∃ us : List Value, us.length = sz ∧ (∀ j, j < sz → w.cell? ⟨b, off + j, none⟩ = us[j]? ∧ w.frozen? ⟨b, off + j, none⟩ = false) ∧ ∀ (j : Nat) u u', v.cells[j]? = some u → us[j]? = some u' → Kin u u' := by
  refine ⟨(List.range sz).map fun j => (w.cell? ⟨b, off + j, none⟩).getD undef, by simp, fun j hj => ?_, fun j u u' hu hu' => ?_⟩
  · obtain ⟨u', h1, h2, _⟩ := h.sp.cells b (off + j) _ hb (hI j _ (Array.getElem?_eq_getElem (by omega)))
    refine ⟨?_, h2⟩
    rw [List.getElem?_map, List.getElem?_range hj, h1]
    simp [h1]
  · have hj : j < sz := by rw [← hs]; exact (Array.getElem?_eq_some_iff.1 hu).1
    obtain ⟨u2, h1, _, h3⟩ := h.sp.cells b (off + j) u hb (hI j u hu)
    rw [List.getElem?_map, List.getElem?_range hj] at hu'
    simp only [Option.map_some, Option.some.injEq, h1, Option.getD_some] at hu'
    subst hu'; exact h3
/-- An element is written over. -/
theorem elem_write {I : Imm} {B : Nat → Prop} {w0 w : World} (h : SpG I B w0 w) {b off sz : Nat} {e : AV} {v z : Value} (hb : B b) (hv : AR B I e v) (hs : v.cells.size = sz) (hI : ∀ (j : Nat) c, v.cells[j]? = some c → I b (off + j) = some c)
    (hz : z.cells.size = sz) (hk : ∀ (j : Nat) c u, e.flat[j]? = some c → z.cells.toList[j]? = some u → KZ c u) : SpG I B w0 (w.setCells b off z.cells.toList) := by
  refine h.write hb (fun j hj => ?_) fun j u u' hu hu' => ?_
  · have hj : j < v.cells.size := by rw [hs, ← hz]; simpa using hj
    obtain ⟨u', h1, _, _⟩ := h.sp.cells b (off + j) _ hb (hI j _ (Array.getElem?_eq_getElem hj))
    rw [h1]; rfl
  · have hj : j < v.cells.size := by
      have := (List.getElem?_eq_some_iff.1 hu').1
      rw [hs, ← hz]; simpa using this
    have h1 := hI j _ (Array.getElem?_eq_getElem hj)
    rw [hu] at h1
    cases h1
    have hf : j < e.flat.length := by rw [hv.flen]; exact hj
    exact (hk j _ u' (List.getElem?_eq_getElem hf) hu').kin (hv.fcell j _ _ (List.getElem?_eq_getElem hf) (Array.getElem?_eq_getElem hj))

def zeroT : Value := .agg #[.int .i64 (-9), .int .i64 0, .int .u64 0, .int .u64 0, .int .u64 0, .int .u64 0, .int .u64 0, .int .u64 0, .int .u64 0, .int .u64 0, .int .u64 0, .int .u64 0, .int .u64 0, .int .u64 0, .int .u64 0, .int .u64 0, .int .u64 0, .int .u64 0, .int .i64 0, .slice none 0 0, .slice none 0 0]
theorem kz_tx (t : TxD) : ∀ (j : Nat) c u, t.dull.flat[j]? = some c → zeroT.cells.toList[j]? = some u → KZ c u := by
  refine kz_cons (.int _ _ _) (kz_cons (.int _ _ _) ?_)
  repeat' (first | exact kz_nil | exact KZ.int _ _ _ | exact KZ.sl _ _ _ | refine kz_cons ?_ ?_)
set_option maxHeartbeats 8000000 in
set_option maxRecDepth 1000000 in
theorem dulls_wide (l : List TxD) : Wide (.sl true 21 (l.map TxD.dull)) := .sl _ _ _ (by decide) fun c hc => by
  obtain ⟨t, _, rfl⟩ := List.mem_map.1 hc
  exact dull_wide t
end Go.Proofs.Ytmngjlgeojbghaa.VA
end
section
namespace Go.Proofs.Ytmngjlgeojbghaa.VA
set_option maxRecDepth 10000
set_option maxHeartbeats 16000000

mutual
def ItemD.avT : ItemD → AV
  | .mk l t xs => .agg [.bool l, .str t, .sl true 3 (ItemD.avTs xs)]
def ItemD.avTs : List ItemD → List AV
  | [] => []
  | x :: xs => ItemD.avT x :: ItemD.avTs xs
end
theorem avTs_map : ∀ xs : List ItemD, ItemD.avTs xs = xs.map ItemD.avT
  | [] => by rw [ItemD.avTs]; rfl
  | x :: xs => by rw [ItemD.avTs, avTs_map xs]; rfl
def ItemD.cellsT (it : ItemD) : List AV := [.bool it.list, .str it.text, .sl true 3 (it.items.map ItemD.avT)]
theorem ItemD.avT_eq (it : ItemD) : it.avT = .agg it.cellsT := by
  cases it with
  | mk l t xs => rw [ItemD.avT, avTs_map]; rfl
theorem dull_noneT (l : Bool) (t : List UInt8) : Dull (.agg [.bool l, .str t, .ext nilP]) (.agg [.bool l, .str t, .sl true 3 []]) := dulls_agg (.cons (.refl _) (.cons (.refl _) (.cons (.nil _ _) .nil)))
def resPT : Except Nat (ItemD × Nat) → AV
  | .error e => .tup [.agg [.bool false, .str [], .sl true 3 []], .int .i64 (0 : Int), .int .i64 (e : Int)]
  | .ok (it, k) => .tup [.agg [.bool it.list, .str it.text, .sl true 3 (it.items.map ItemD.avT)], .int .i64 (k : Int), .int .i64 (0 : Int)]
mutual
theorem avT_dull : ∀ it : ItemD, Dull it.avT it.av
  | .mk l t xs => by
    rw [ItemD.avT, ItemD.av]
    exact dulls_agg (.cons (.refl _) (.cons (.refl _) (.cons (.sl true 3 _ _ (dulls_get (avTs_dull xs)).1 (dulls_get (avTs_dull xs)).2) .nil)))
theorem avTs_dull : ∀ xs : List ItemD, Dulls (ItemD.avTs xs) (ItemD.avs xs)
  | [] => by rw [ItemD.avTs, ItemD.avs]; exact .nil
  | x :: xs => by rw [ItemD.avTs, ItemD.avs]; exact .cons (avT_dull x) (avTs_dull xs)
end
theorem c_oneT (N : Nat) : ∀ (s : List UInt8) (d : Nat), s.length ≤ N → s.length ≤ 16777216 → d ≤ 16 → Contract Try.prog 19 [.str s, .int .i64 d] (resPT (oneR d s)) := by
  induction N using Nat.strongRecOn with
  | _ N ih =>
    intro s d hN hs hd
    have hr := c_item_read s (by omega)
    have wd : IntKind.i64.wrap ((d : Int) + 1) = ((d + 1 : Nat) : Int) := wi64_nat d (by omega)
    cases hh : hdOf s with
    | error e =>
      have he := hd_err hh
      have e0 : ((e : Int) != 0) = true := by rcases he with rfl | rfl <;> rfl
      have ho : oneR d s = .error e := by unfold oneR; rw [hh]
      rw [ho]
      rw [hh] at hr
      unfold hdRes at hr
      refine contract_of (C := cf 104 [0, 1, 4, 5, 6, 7, 8, 9, 10, 11, 12, 19, 27, 39, 45, 63, 81, 91] (fun _ => [])) (cf_ok _ _ _) (fn := Try.f19) Try.func19 (by kernel_rfl) rfl (by kernel_rfl) (by simp [cf]) (plain2 (.str _) (.int _ _)) (by decide) (cellsOk (by kernel_rfl)) ?_
      simp only [go_sem, seval]
      refine ex_call (by exact hr) ?_
      simp only [go_sem, seval, e0]
      refine finTupD (vs' := [.agg [.bool false, .str [], .ext nilP], .int .i64 (0 : Int), .int .i64 (e : Int)]) ?_ (fins3 (dull_noneT _ _) _)
      show resOf _ _ [.cell 4 26, .tmp 5, .tmp 6] = _
      simp only [go_sem, seval]
    | ok r =>
      obtain ⟨l, f, n⟩ := r
      obtain ⟨b1, b2, b3⟩ := hd_bounds hh
      rw [hh] at hr
      unfold hdRes at hr
      have wfn : IntKind.i64.wrap ((f : Int) + (n : Int)) = ((f + n : Nat) : Int) := by rw [wi64 (by omega) (by omega)]; omega
      have hsub : f + n - f = n := by omega
      refine contract_of (C := cf 104 [0, 1, 4, 5, 6, 7, 8, 9, 10, 11, 12, 19, 27, 39, 45, 63, 81, 91] (fun _ => [])) (cf_ok _ _ _) (fn := Try.f19) Try.func19 (by kernel_rfl) rfl (by kernel_rfl) (by simp [cf]) (plain2 (.str _) (.int _ _)) (by decide) (cellsOk (by kernel_rfl)) ?_
      simp only [go_sem, seval]
      refine ex_call (by exact hr) ?_
      unfold oneR
      rw [hh]
      simp only
      rcases Decidable.em ((l = true ∧ 16 ≤ d) ∨ 65536 < f + n) with h1 | h1
      · rw [if_pos h1]
        have e1 : decide (((f + n : Nat) : Int) > 65536) = decide (65536 < f + n) := decide_congr (by omega)
        have e2 : decide ((d : Int) ≥ 16) = decide (16 ≤ d) := decide_congr (by omega)
        have e3 : (l && decide (16 ≤ d) || decide (65536 < f + n)) = true := by
          cases l <;> simp_all
        simp only [go_sem, seval, wfn]
        refine ex_joinB 27 (l && decide (16 ≤ d) || decide (65536 < f + n)) ?_ ?_
        · repeat' (first | (refine ex_split (fun h => ?_) (fun h => ?_)) | (with_reducible refine And.intro (by omega) ?_) |
            (simp only [go_sem, seval, wfn, e1, e2]))
          all_goals (try simp only [ASt.mk.injEq, List.cons.injEq, Prod.mk.injEq, AV.bool.injEq, true_and, and_true, eq_self])
          all_goals first | (simp_all; done) | (simp_all; omega) | (rw [Bool.eq_iff_iff]; simp only [List.length_map, Bool.or_eq_true, Bool.and_eq_true, Bool.not_eq_true', Bool.not_eq_false', decide_eq_true_eq, decide_eq_false_iff_not, bne_iff_ne, beq_iff_eq, ne_eq, true_iff, iff_true, false_iff, iff_false, Bool.false_eq_true, not_false_eq_true, not_true_eq_false] at *; omega)
        rw [e3]
        simp only [go_sem, seval]
        refine finTupD (vs' := [.agg [.bool false, .str [], .ext nilP], .int .i64 (0 : Int), .int .i64 (1 : Int)]) ?_ (fins3 (dull_noneT _ _) _)
        show resOf _ _ [.cell 4 26, .tmp 5, .tmp 6] = _
        simp only [go_sem, seval]
      · rw [if_neg h1]
        have h2 : ¬ 65536 < f + n := fun h => h1 (.inr h)
        have e1 : decide (((f + n : Nat) : Int) > 65536) = false := decide_eq_false (by omega)
        rcases Decidable.em (s.length < f + n) with h3 | h3
        · rw [if_pos h3]
          have e3 : decide (((f + n : Nat) : Int) > (s.length : Int)) = true := decide_eq_true (by omega)
          cases l with
          | false =>
            simp only [go_sem, seval, wfn, e1, e3]
            refine finTupD (vs' := [.agg [.bool false, .str [], .ext nilP], .int .i64 (0 : Int), .int .i64 (7 : Int)]) ?_ (fins3 (dull_noneT _ _) _)
            show resOf _ _ [.cell 4 26, .tmp 5, .tmp 6] = _
            simp only [go_sem, seval]
          | true =>
            have e2 : decide ((d : Int) ≥ 16) = false := decide_eq_false fun h => h1 (.inl ⟨rfl, by omega⟩)
            simp only [go_sem, seval, wfn, e1, e2, e3]
            refine finTupD (vs' := [.agg [.bool false, .str [], .ext nilP], .int .i64 (0 : Int), .int .i64 (7 : Int)]) ?_ (fins3 (dull_noneT _ _) _)
            show resOf _ _ [.cell 4 26, .tmp 5, .tmp 6] = _
            simp only [go_sem, seval]
        · rw [if_neg h3]
          have e3 : decide (((f + n : Nat) : Int) > (s.length : Int)) = false := decide_eq_false (by omega)
          have hlen : ((s.drop f).take n).length = n := by rw [List.length_take, List.length_drop]; omega
          cases l with
          | false =>
            rw [if_pos rfl]
            have ha := c_item_alone ((s.drop f).take n) (by omega)
            rcases Decidable.em (0 < f) with h4 | h4
            · have e4 : decide ((f : Int) > 0) = true := decide_eq_true (by omega)
              simp only [go_sem, seval, wfn, e1, e3, e4, Int.toNat_natCast, hsub]
              refine ⟨by omega, ?_⟩
              refine ex_call (by exact ha) ?_
              cases hal : aloneB ((s.drop f).take n) with
              | true =>
                rw [if_pos ⟨h4, rfl⟩]
                simp only [go_sem, seval]
                refine finTupD (vs' := [.agg [.bool false, .str [], .ext nilP], .int .i64 (0 : Int), .int .i64 (1 : Int)]) ?_ (fins3 (dull_noneT _ _) _)
                show resOf _ _ [.cell 4 26, .tmp 5, .tmp 6] = _
                simp only [go_sem, seval]
              | false =>
                rw [if_neg (fun h => by cases h.2)]
                simp only [go_sem, seval, Int.toNat_natCast, hsub]
                refine ⟨by omega, ?_⟩
                refine finTupD (vs' := [.agg [.bool false, .str ((s.drop f).take n), .ext nilP], .int .i64 ((f + n : Nat) : Int), .int .i64 (0 : Int)]) ?_ (fins3 (dull_noneT _ _) _)
                show resOf _ _ [.cell 4 26, .tmp 5, .tmp 6] = _
                simp only [go_sem, seval]
            · have e4 : decide ((f : Int) > 0) = false := decide_eq_false (by omega)
              rw [if_neg (fun h => h4 h.1)]
              simp only [go_sem, seval, wfn, e1, e3, e4, Int.toNat_natCast, hsub]
              refine ⟨by omega, ?_⟩
              refine finTupD (vs' := [.agg [.bool false, .str ((s.drop f).take n), .ext nilP], .int .i64 ((f + n : Nat) : Int), .int .i64 (0 : Int)]) ?_ (fins3 (dull_noneT _ _) _)
              show resOf _ _ [.cell 4 26, .tmp 5, .tmp 6] = _
              simp only [go_sem, seval]
          | true =>
            have hf := b3 rfl
            have hd16 : d < 16 := by
              rcases Nat.lt_or_ge d 16 with h | h
              · exact h
              · exact absurd (.inl ⟨rfl, h⟩) h1
            have e2 : decide ((d : Int) ≥ 16) = false := decide_eq_false (by omega)
            rw [if_neg (by simp)]
            obtain ⟨body, hbody⟩ : ∃ body, body = (s.drop f).take n := ⟨_, rfl⟩
            rw [← hbody] at hlen ⊢
            simp only [go_sem, seval, wfn, e1, e2, e3, Int.toNat_natCast, hsub]
            refine ⟨by omega, ?_⟩
            rw [← hbody]
            refine ex_iter [1, 4, 8, 9] (fun q : List ItemD × List UInt8 => ⟨[(1, .int .i64 d), (4, .var 4 0), (8, .int .i64 (f + n : Nat)), (9, .str q.2)], [(4, [.bool true, .str [], .own false 3 (q.1.map ItemD.avT)])], []⟩)
              (fun q => q.1.length + q.2.length ≤ n ∧ itemsP (d + 1) body = (itemsP (d + 1) q.2).map (q.1 ++ ·)) (fun q => q.2.length) ([], body) ?_ ?_ ?_
            · simp only [ASt.keep, consIf, keepL, keepV, AV.isBot, List.contains_cons, List.contains_nil, Nat.reduceBEq, Bool.or_false, Bool.false_or, Bool.or_true, Bool.true_or, beq_self_eq_true, Bool.false_eq_true, ↓reduceIte, if_false, if_true]
              rfl
            · refine ⟨by simp only [List.length_nil]; omega, ?_⟩
              cases itemsP (d + 1) body <;> rfl
            · rintro r ⟨xs, rest⟩ ⟨hq1, hq2⟩ next
              simp only at hq1 hq2
              simp only [go_sem, seval]
              refine ex_br (fun hc => ?_) (fun hc => ?_)
              · have hne : rest ≠ [] := by rintro rfl; simp at hc
                have hone := items_one (d := d + 1) hne
                have hcall := ih rest.length (by omega) rest (d + 1) (Nat.le_refl _) (by omega) (by omega)
                have hp := one_parse (d + 1) rest
                simp only [go_sem, seval, wd]
                cases ho : oneR (d + 1) rest with
                | error e =>
                  rw [ho] at hcall hone hp
                  have he0 : ((e : Int) != 0) = true := by
                    unfold oneR at ho
                    cases hh2 : hdOf rest with
                    | error e2 =>
                      rw [hh2] at ho
                      cases ho
                      rcases hd_err hh2 with rfl | rfl <;> rfl
                    | ok r2 =>
                      obtain ⟨l2, f2, n2⟩ := r2
                      rw [hh2] at ho
                      simp only at ho
                      repeat' (split at ho)
                      all_goals first | (cases ho; rfl) | (cases ho; done)
                  have hnone : itemsP (d + 1) body = none := by rw [hq2, hone]; rfl
                  rw [hnone]
                  unfold resPT at hcall
                  refine ex_call (by exact hcall) ?_
                  simp only [go_sem, seval, he0]
                  refine finTupD (vs' := [.agg [.bool false, .str [], .ext nilP], .int .i64 (0 : Int), .int .i64 (1 : Int)]) ?_ (fins3 (dull_noneT _ _) _)
                  show resOf _ _ [.cell 4 26, .tmp 5, .tmp 6] = _
                  simp only [go_sem, seval]
                | ok r2 =>
                  obtain ⟨x, k⟩ := r2
                  rw [ho] at hcall hone hp
                  have hp : parse (d + 1) rest = .ok (x, k) := hp
                  have hpo := parse_ok hp
                  have hp1 := hpo.pos
                  have hp2 := hpo.le
                  unfold resPT at hcall
                  refine ex_call (by exact hcall) ?_
                  simp only [go_sem, seval]
                  refine ex_draw [9] [] (.quiet 0 (.quiet 1 (.quiet 2 (.quiet 5 (.quiet 6 (.quiet 7 (.one 3 (.one 4 (.quiet 8 (.unlock (.one 9 (.quiet 10 (.fin))))))))))))) (by kernel_rfl) ?_
                  simp only [go_sem, seval, List.length_map, Int.toNat_natCast]
                  repeat with_reducible refine And.intro (by first | omega | (simp only [List.length_cons, List.length_append, List.length_nil, List.length_map, List.length_take, List.length_drop, List.length_set]; omega)) ?_
                  refine next (xs ++ [x], rest.drop k) _ ?_ ?_ ?_
                  · refine ⟨by simp only [List.length_append, List.length_singleton, List.length_drop]; omega, ?_⟩
                    simp only
                    rw [hq2, hone]
                    simp only [Option.map_map]
                    congr 1
                    funext ys
                    simp
                  · simp only [List.length_drop]; omega
                  · simp only [ASt.keep, consIf, keepL, keepV, AV.isBot, List.contains_cons, List.contains_nil, Nat.reduceBEq, Bool.or_false, Bool.false_or, Bool.or_true, Bool.true_or, beq_self_eq_true, Bool.false_eq_true, ↓reduceIte, if_false, if_true]
                    simp only [List.map_append, List.map_cons, List.map_nil, ItemD.avT_eq, ItemD.cellsT]
                    rw [List.take_of_length_le (by simp)]
              · have hnil : rest = [] := by simpa using hc
                subst hnil
                have hsome : itemsP (d + 1) body = some xs := by rw [hq2, itemsP_nil]; simp
                rw [hsome]
                simp only [go_sem, seval]
                refine finTupD (vs' := [.agg [.bool true, .str [], .sl true 3 (xs.map ItemD.avT)], .int .i64 ((f + n : Nat) : Int), .int .i64 (0 : Int)]) ?_ (finsRefl _)
                show resOf _ _ [.cell 4 26, .tmp 5, .tmp 6] = _
                simp only [go_sem, seval]
theorem c_item_TakeT (s : List UInt8) (hs : s.length ≤ 16777216) : Contract Try.prog 9 [.str s] (resPT (parse 0 s)) := by
  have h := c_oneT s.length s 0 (Nat.le_refl _) hs (by omega)
  rw [one_zero] at h
  cases hp : parse 0 s with
  | error e =>
    rw [hp] at h
    unfold resPT at h
    refine contract_of (C := cf 10 [0, 2, 3, 4] (fun _ => [])) (cf_ok _ _ _) (fn := Try.f9) Try.func9 (by kernel_rfl) rfl (by kernel_rfl) (by simp [cf]) (plain1 (.str _)) (by decide) (cellsOk (by kernel_rfl)) ?_
    simp only [go_sem, seval]
    refine ex_call (by exact h) ?_
    simp only [go_sem, seval]
    refine finTup ?_
    show resOf _ _ [.cell 2 26, .tmp 3, .tmp 4] = _
    simp only [go_sem, seval]
  | ok r =>
    obtain ⟨it, k⟩ := r
    rw [hp] at h
    unfold resPT at h
    refine contract_of (C := cf 10 [0, 2, 3, 4] (fun _ => [])) (cf_ok _ _ _) (fn := Try.f9) Try.func9 (by kernel_rfl) rfl (by kernel_rfl) (by simp [cf]) (plain1 (.str _)) (by decide) (cellsOk (by kernel_rfl)) ?_
    simp only [go_sem, seval]
    refine ex_call (by exact h) ?_
    simp only [go_sem, seval]
    refine finTup ?_
    show resOf _ _ [.cell 2 26, .tmp 3, .tmp 4] = _
    simp only [go_sem, seval]end Go.Proofs.Ytmngjlgeojbghaa.VA
end
section
namespace Go.Proofs.Ytmngjlgeojbghaa.VA
open Go.RowKit

mutual
theorem avT_wide : ∀ it : ItemD, Wide it.avT
  | .mk l t xs => by
    rw [ItemD.avT]
    refine .agg _ fun c hc => ?_
    simp only [List.mem_cons, List.not_mem_nil, or_false] at hc
    rcases hc with rfl | rfl | rfl
    · exact .bool _
    · exact .str _
    · exact .sl _ _ _ (by decide) (avTs_wide xs)
theorem avTs_wide : ∀ (xs : List ItemD), ∀ c, c ∈ ItemD.avTs xs → Wide c
  | [] => fun c hc => by rw [ItemD.avTs] at hc; cases hc
  | x :: xs => fun c hc => by
    rw [ItemD.avTs] at hc
    rcases List.mem_cons.1 hc with rfl | hc
    · exact avT_wide x
    · exact avTs_wide xs c hc
end
theorem arr3 (a : Array Value) (h : a.size = 3) : ∃ c0 c1 c2, a = #[c0, c1, c2] := by
  rcases a with ⟨l⟩
  match l, h with
  | [c0, c1, c2], _ => exact ⟨c0, c1, c2, rfl⟩
def zeroI : Value := .agg #[.bool false, .string ⟨#[63]⟩, .slice none 0 0]
theorem kz_item (it : ItemD) : ∀ (j : Nat) c u, it.avT.flat[j]? = some c → zeroI.cells.toList[j]? = some u → KZ c u := by
  rw [ItemD.avT_eq]
  exact kz_cons (.bool _ _) (kz_cons (.str _ _) (kz_cons (.sl _ _ _) kz_nil))
/-- What tarnlaw0.Item does at an item as it stands now. -/
def ItemGoes (it : ItemD) : Prop := ∀ (I : Imm) (B : Nat → Prop) (w : World) (v v' : Value), AR B I it.avT v → KinV v v' → Sp I B w → (∀ b, B b → b < w.heap.size) → Calls Try.prog 13 #[v'] w fun e w' => e = .returned (.tuple #[]) ∧ SpG I B w w'
set_option maxHeartbeats 8000000 in
set_option maxRecDepth 1000000 in
theorem walk_Item (l : Bool) (t : List UInt8) (xs : List ItemD) (hn : xs.length ≤ 4611686018427387904) (ih : ∀ x ∈ xs, ItemGoes x) : ItemGoes (.mk l t xs) := by
  intro I B w v v' hx hk hs hB
  rw [ItemD.avT_eq] at hx
  have hx : AR B I (.agg [.bool l, .str t, .sl true 3 (xs.map ItemD.avT)]) v := hx
  cases hx with
  | agg _ vs0 hl0 h10 hcs0 =>
    have hl0 : 3 = vs0.size := hl0
    obtain ⟨vs', rfl, hs', hkk⟩ := hk.agg (by omega)
    obtain ⟨c0, c1, c2, rfl⟩ := arr3 vs' (by omega)
    have e2 := hcs0 2 _ _ rfl (Array.getElem?_eq_getElem (by omega))
    have k2 := hkk 2 _ _ (Array.getElem?_eq_getElem (by omega)) rfl
    obtain ⟨base, n, cap, rfl, hr⟩ := row_now e2 k2
    have hn2 : n ≤ 4611686018427387904 := by
      rcases hr with rfl | ⟨rfl, _⟩
      · omega
      · rw [List.length_map]; exact hn
    obtain ⟨W, hW⟩ : ∃ W : World, W = w.alloc (.cells #[c0, c1, .slice base n cap] 26) := ⟨_, rfl⟩
    have hg0 : SpG I B w W := by
      rw [hW]
      exact SpG.grow ⟨fr_refl _ _, hs⟩ (fr_alloc w _ fun j u _ => World.frozen?_alloc_new w _ _ j)
    have h2 : W.cell? ⟨w.heap.size, 2, none⟩ = some (.slice base n cap) := by rw [hW, World.cell?_alloc_new]; rfl
    clear hl0 h10 hcs0 hk hkk hs' e2 k2
    go_enter Try.func13, Try.ntmps13
    go_wp2
    rw [← hW]
    have hBk : ∀ b, B b → b ≠ w.heap.size := fun b hb e => by
      have := hB b hb
      omega
    clear hW hs
    obtain ⟨k0, hk0⟩ : ∃ k0, k0 = w.heap.size := ⟨_, rfl⟩
    rw [← hk0] at h2 hBk ⊢
    clear hk0
    refine wp_loop_ghost (fun m a w' => ∃ (i : Nat) (x3 x4 x5 x6 x7 x8 x9 x10 x11 x12 x13 x14 x15 x16 x17 x18 x19 x20 : Value), (i ≤ n ∧ m = n - i) ∧ a = { tmps := #[.agg #[c0, c1, .slice base n cap], .pointer (some ⟨k0, 0, none⟩), .int .i64 i, x3, x4, x5, x6, x7, x8, x9, x10, x11, x12, x13, x14, x15, x16, x17, x18, x19, x20], defers := [] } ∧ SpG I B w w' ∧ w'.cell? ⟨k0, 2, none⟩ = some (.slice base n cap)) n
      ⟨0, _, _, _, _, _, _, _, _, _, _, _, _, _, _, _, _, _, _, ⟨Nat.zero_le _, rfl⟩, rfl, hg0, h2⟩ ?_
    clear hg0 h2
    rintro m a w' ⟨i, x3, x4, x5, x6, x7, x8, x9, x10, x11, x12, x13, x14, x15, x16, x17, x18, x19, x20, ⟨hi, hmi⟩, rfl, hg, h2⟩
    have A : Aside (m = n - i) := hmi
    clear hmi
    rcases Nat.lt_or_ge i n with hlt | hge
    · rcases hr with rfl | ⟨hnl, b, o, rfl, hBb, vs, hv, hz, hI⟩
      · omega
      rw [List.length_map] at hnl
      obtain ⟨t1, et⟩ : ∃ t1, xs[i]? = some t1 := ⟨_, List.getElem?_eq_getElem (by omega)⟩
      have hto := ih t1 (List.mem_of_getElem? et)
      have hvi : AR B I t1.avT (vs i) := hv i _ (by rw [List.getElem?_map, et]; rfl)
      have hzi := hz i (by rw [List.length_map]; omega)
      have hIi : ∀ (j : Nat) c, (vs i).cells[j]? = some c → I b (o + i * 3 + j) = some c := fun j c hj => hI i j c (by rw [List.length_map]; omega) hj
      obtain ⟨us, u1, u2, u3⟩ := elem_now hg hBb hzi hIi
      have hfit := (cf_ok 0 [] (fun _ => [])).fit 26 (by rfl)
      have hload : (Go.loadVar 26 ⟨b, o + i * 3, none⟩).run Try.prog w' = .ok (.agg us.toArray) w' := loadVar_agg (n := 3) (fit_isAgg hfit w') (fit_sizeOf hfit w') us u1 fun j u hj => by
        rw [Addr.add_lit, (u2 j (by rw [← u1]; exact (List.getElem?_eq_some_iff.1 hj).1)).1]; exact hj
      have hkv : KinV (vs i) (.agg us.toArray) := ⟨by rw [hzi]; show 3 = us.toArray.size; simp [u1], fun j u u' hu hu' => u3 j u u' hu (by simpa [Value.cells] using hu')⟩
      have hcall := hto I B w' (vs i) (.agg us.toArray) hvi hkv hg.sp fun b hb => Nat.lt_of_lt_of_le (hB b hb) hg.fr.size
      have hst : ∀ w2, SpG I B w' w2 → (Instr.storeAt 26 (.pointer (some ⟨b, o + i * 3, none⟩)) zeroI).run Try.prog w2 = .ok () (w2.setCells b (o + i * 3) zeroI.cells.toList) := fun w2 hg2 =>
        (run_storeAt (n := 3) rfl (fit_sizeOf hfit w2) rfl (fun j hj => by
          obtain ⟨u', q1, q2, _⟩ := hg2.sp.cells b (o + i * 3 + j) _ hBb (hIi j _ (Array.getElem?_eq_getElem (by rw [hzi]; exact hj)))
          exact ⟨u', q1, q2⟩) (by decide)).1
      have hk0w : k0 < w'.heap.size := World.block_lt_of_cell? _ _ h2
      have h2' : ∀ w2, SpG I B w' w2 → w2.cell? ⟨k0, 2, none⟩ = some (.slice (some ⟨b, o, none⟩) n cap) := fun w2 hg2 => by
        rw [World.cell?_of_block (a := ⟨k0, 2, none⟩) (hg2.fr.block k0 hk0w fun e => hBk k0 e rfl)]; exact h2
      have Q : Aside ((SpG I B w w' ∧ B b) ∧ AR B I t1.avT (vs i) ∧ (vs i).cells.size = 3 ∧ (∀ (j : Nat) c, (vs i).cells[j]? = some c → I b (o + i * 3 + j) = some c)) := ⟨⟨hg, hBb⟩, hvi, hzi, hIi⟩
      clear hg hBb hvi hzi hIi hv hz hI u1 u2 u3 hkv hnl et hto hk0w
      go_wp2_with (first | (refine wpList_load rfl 26 _ (by rfl) (by rfl) (by exact hload) ?_) | (go_at_call 13; refine hcall.mono ?_; rintro e w2 ⟨rfl, hg2⟩; have h22 := h2' w2 hg2) | (refine wpList_store rfl 26 _ _ (by rfl) (by rfl) (by rfl) (by rfl) (by exact hst _ (by assumption)) ?_; generalize hW2 : World.setCells _ _ _ _ = W2))
      obtain ⟨⟨hg, hBb⟩, hvi, hzi, hIi⟩ := Q.out
      have hmi := A.out
      refine ⟨n - (i + 1), by omega, i + 1, _, _, _, _, _, _, _, _, _, _, _, _, _, _, _, _, _, _, ⟨by omega, rfl⟩, rfl, ?_, ?_⟩
      · rw [← hW2]
        exact elem_write (z := zeroI) (hg.called (by assumption)) hBb hvi hzi hIi rfl (kz_item t1)
      · rw [← hW2]
        exact (World.cell?_setCells_out b _ _ _ ⟨k0, 2, none⟩ (fun e _ => absurd e.symm (hBk b hBb))).trans h22
    · go_wp2
      go_end0
      exact ⟨rfl, hg⟩
theorem items_len {l : Bool} {t : List UInt8} {xs : List ItemD} (h : (ItemD.mk l t xs).ok) : xs.length ≤ 4611686018427387904 := by
  have h2 := wts_len xs
  unfold ItemD.ok at h
  rw [wt_eq] at h
  have e : (ItemD.mk l t xs).items = xs := rfl
  rw [e] at h
  omega
theorem item_sub {l : Bool} {t : List UInt8} {xs : List ItemD} (h : (ItemD.mk l t xs).ok) {x : ItemD} (hx : x ∈ xs) : x.ok := by
  have h2 := wts_mem hx
  unfold ItemD.ok at h ⊢
  rw [wt_eq] at h
  have e : (ItemD.mk l t xs).items = xs := rfl
  rw [e] at h
  omega
mutual
theorem item_goes : ∀ it : ItemD, it.ok → ItemGoes it
  | .mk l t xs => fun h => walk_Item l t xs (items_len h) (items_go xs fun x hx => item_sub h hx)
theorem items_go : ∀ xs : List ItemD, (∀ x ∈ xs, x.ok) → ∀ x ∈ xs, ItemGoes x
  | [], _ => fun x hx => by cases hx
  | y :: ys, h => fun x hx => by
    rcases List.mem_cons.1 hx with e | hx
    · rw [e]; exact item_goes y (h y (.head _))
    · exact items_go ys (fun z hz => h z (.tail _ hz)) x hx
end
theorem spoil_Item (it : ItemD) (h : it.ok) : Spoil Try.prog 13 it.avT :=
  spoil_of (avT_wide it) ⟨_, _, Try.func13, by kernel_rfl, rfl⟩ fun I B w v hx hs hB => item_goes it h I B w v v hx (kinV_refl v) hs hB
end Go.Proofs.Ytmngjlgeojbghaa.VA
end
section
namespace Go.Proofs.Ytmngjlgeojbghaa.VA

noncomputable def cfs (n : Nat) (live : List Nat) (spc spl : FuncId → Bool) : Cfg := { P := Try.prog, ti := ti, n := n, live := live, ownp := fun _ => [], spc := spc, spl := spl }
theorem cfs_ok (n : Nat) (live : List Nat) (spc spl : FuncId → Bool) : CfgOk (cfs n live spc spl) := ⟨(cf_ok 0 [] (fun _ => [])).mixed, (cf_ok 0 [] (fun _ => [])).fit⟩
/-! What was put by. -/
theorem sty_agg {s : Stash} : ∀ {xs ys : List AV}, xs.length = ys.length → (∀ (j : Nat) x y, xs[j]? = some x → ys[j]? = some y → Sty s x y) → Sty s (.agg xs) (.agg ys) := fun hl h => .agg _ _ hl h
theorem sty_nil (s : Stash) : ∀ (j : Nat) x y, ([] : List AV)[j]? = some x → ([] : List AV)[j]? = some y → Sty s x y := fun j x y h => by cases h
theorem sty_cons {s : Stash} {x y : AV} {xs ys : List AV} (h : Sty s x y) (hr : ∀ (j : Nat) x y, xs[j]? = some x → ys[j]? = some y → Sty s x y) : ∀ (j : Nat) u v, (x :: xs)[j]? = some u → (y :: ys)[j]? = some v → Sty s u v := fun j u v hu hv => by
  cases j with
  | zero =>
    simp only [List.getElem?_cons_zero, Option.some.injEq] at hu hv
    subst hu hv; exact h
  | succ j => exact hr j u v (by simpa using hu) (by simpa using hv)
theorem by_nil (s : Stash) : ∀ (j : Nat) x y, ([] : List AV)[j]? = some x → ([] : List AV)[j]? = some y → By s x y := fun j x y h => by cases h
theorem by_cons {s : Stash} {x y : AV} {xs ys : List AV} (h : By s x y) (hr : ∀ (j : Nat) x y, xs[j]? = some x → ys[j]? = some y → By s x y) : ∀ (j : Nat) u v, (x :: xs)[j]? = some u → (y :: ys)[j]? = some v → By s u v := fun j u v hu hv => by
  cases j with
  | zero =>
    simp only [List.getElem?_cons_zero, Option.some.injEq] at hu hv
    subst hu hv; exact h
  | succ j => exact hr j u v (by simpa using hu) (by simpa using hv)
end Go.Proofs.Ytmngjlgeojbghaa.VA
end
section
namespace Go.Proofs.Ytmngjlgeojbghaa.VA
set_option maxRecDepth 10000
set_option maxHeartbeats 8000000

theorem dullsT : ∀ xs : List ItemD, Dulls (xs.map ItemD.avT) (xs.map ItemD.av)
  | [] => .nil
  | x :: xs => .cons (avT_dull x) (dullsT xs)
theorem rowT_dull (xs : List ItemD) : Dull (.sl true 3 (xs.map ItemD.avT)) (.sl false 3 (xs.map ItemD.av)) := .sl true 3 _ _ (dulls_get (dullsT xs)).1 (dulls_get (dullsT xs)).2
theorem itemT_by (s : Stash) (it : ItemD) : By s (.agg [.bool it.list, .str it.text, .ext (stP s (.sl true 3 (it.items.map ItemD.avT)))]) (.agg [.bool it.list, .str it.text, .sl false 3 (it.items.map ItemD.av)]) :=
  .agg _ _ rfl (by_cons (.dull (.refl _) rfl) (by_cons (.dull (.refl _) rfl) (by_cons (.st (rowT_dull _)) (by_nil _))))
theorem itemT_sty (s : Stash) (it : ItemD) : Sty s (.agg [.bool it.list, .str it.text, .ext (stP s (.sl true 3 (it.items.map ItemD.avT)))]) (.agg [.bool it.list, .str it.text, .sl true 3 (it.items.map ItemD.avT)]) :=
  .agg _ _ rfl (sty_cons (.bool _) (sty_cons (.str _) (sty_cons (.st _) (sty_nil _))))
theorem spoil_I (it : ItemD) (h : it.ok) : Spoil Try.prog 13 (.agg [.bool it.list, .str it.text, .sl true 3 (it.items.map ItemD.avT)]) := by
  have h1 := spoil_Item it h
  rw [ItemD.avT_eq] at h1
  exact h1
def spc4 (f : FuncId) : Bool := Nat.beq f 9 || (Nat.beq f 13 || Nat.beq f 10)
def spl4 (f : FuncId) : Bool := Nat.beq f 13
theorem spc4_heavy : spc4 6 = false := rfl
theorem spc4_Take : spc4 9 = true := rfl
theorem spc4_ref : spc4 12 = false := rfl
theorem spc4_num : spc4 8 = false := rfl
theorem spc4_Eq : spc4 10 = true := rfl
theorem spc4_Item : spc4 13 = true := rfl
theorem spc4_Parse : spc4 14 = false := rfl
theorem spc4_wakes : spc4 11 = false := rfl
theorem c_ItemTakes (l : List Ask4) (hl : l.length ≤ 281474976710656) (hok : ∀ a ∈ l, a.wide) : Contract Try.prog 4 [asks4 l] (.bool true) := by
  refine contract_of (C := cfs 96 [0, 2, 3, 4, 5, 6, 7, 8, 9, 10, 18, 25, 60, 83, 94] spc4 spl4) (cfs_ok _ _ _ _) (fn := Try.f4) Try.func4 (by kernel_rfl) rfl (by kernel_rfl) (by simp [cfs]) (hspc := fun _ => rfl) (plain1 (asks4_plain l)) (by decide) (noCell (by kernel_rfl)) ?_
  simp only [go_sem, ↓reduceIte, Nat.reduceLT, Nat.reduceLeDiff, Nat.reduceAdd, Nat.reduceSub, Nat.reduceMul, Nat.reduceEqDiff, Nat.reduceBEq, Nat.reduceMod, Nat.reduceDiv, Int.reduceToNat, reduceCtorEq, Int.reduceLT, Int.reduceLE, Int.reduceGT, Int.reduceGE, Int.reduceAdd, Int.reduceSub, Int.reduceMul, Int.reduceNeg, Int.reduceEq, Int.reduceNe, Int.reduceBNe, Int.reduceBEq, Int.reduceDiv, cfs, spc4_heavy, spc4_Take, spc4_ref, spc4_num, spc4_Eq, spc4_Item, spc4_Parse, spc4_wakes, asks4]
  refine ex_iter [0, 3] (fun i : Nat => ⟨[(0, .sl false 4 (l.map Ask4.av)), (3, .int .i64 i)], [], []⟩) (fun i => i ≤ l.length) (fun i => l.length - i) 0 ?_ ?_ ?_
  · simp only [ASt.keep, consIf, keepL, keepV, AV.isBot, List.contains_cons, List.contains_nil, Nat.reduceBEq, Bool.or_false, Bool.false_or, Bool.or_true, Bool.true_or, beq_self_eq_true, Bool.false_eq_true, ↓reduceIte, if_false, if_true]
    rfl
  · exact Nat.zero_le _
  · intro n i hi next
    simp only [go_sem, ↓reduceIte, Nat.reduceLT, Nat.reduceLeDiff, Nat.reduceAdd, Nat.reduceSub, Nat.reduceMul, Nat.reduceEqDiff, Nat.reduceBEq, Nat.reduceMod, Nat.reduceDiv, Int.reduceToNat, reduceCtorEq, Int.reduceLT, Int.reduceLE, Int.reduceGT, Int.reduceGE, Int.reduceAdd, Int.reduceSub, Int.reduceMul, Int.reduceNeg, Int.reduceEq, Int.reduceNe, Int.reduceBNe, Int.reduceBEq, Int.reduceDiv, spc4_heavy, spc4_Take, spc4_ref, spc4_num, spc4_Eq, spc4_Item, spc4_Parse, spc4_wakes, List.length_map]
    refine ex_joinB 18 (decide (i < l.length) && decide (i < 6)) ?_ ?_
    · repeat' (first | (refine ex_split (fun h => ?_) (fun h => ?_)) | (with_reducible refine And.intro (by omega) ?_) |
        (simp only [go_sem, ↓reduceIte, Nat.reduceLT, Nat.reduceLeDiff, Nat.reduceAdd, Nat.reduceSub, Nat.reduceMul, Nat.reduceEqDiff, Nat.reduceBEq, Nat.reduceMod, Nat.reduceDiv, Int.reduceToNat, reduceCtorEq, Int.reduceLT, Int.reduceLE, Int.reduceGT, Int.reduceGE, Int.reduceAdd, Int.reduceSub, Int.reduceMul, Int.reduceNeg, Int.reduceEq, Int.reduceNe, Int.reduceBNe, Int.reduceBEq, Int.reduceDiv]))
      all_goals (try simp only [ASt.mk.injEq, List.cons.injEq, Prod.mk.injEq, AV.bool.injEq, true_and, and_true, eq_self])
      all_goals first | (simp_all; done) | (simp_all; omega) | (rw [Bool.eq_iff_iff]; simp only [List.length_map, Bool.or_eq_true, Bool.and_eq_true, Bool.not_eq_true', Bool.not_eq_false', decide_eq_true_eq, decide_eq_false_iff_not, bne_iff_ne, beq_iff_eq, ne_eq, true_iff, iff_true, false_iff, iff_false, Bool.false_eq_true, not_false_eq_true, not_true_eq_false] at *; omega)
    simp only [go_sem, ↓reduceIte, Nat.reduceLT, Nat.reduceLeDiff, Nat.reduceAdd, Nat.reduceSub, Nat.reduceMul, Nat.reduceEqDiff, Nat.reduceBEq, Nat.reduceMod, Nat.reduceDiv, Int.reduceToNat, reduceCtorEq, Int.reduceLT, Int.reduceLE, Int.reduceGT, Int.reduceGE, Int.reduceAdd, Int.reduceSub, Int.reduceMul, Int.reduceNeg, Int.reduceEq, Int.reduceNe, Int.reduceBNe, Int.reduceBEq, Int.reduceDiv, spc4_heavy, spc4_Take, spc4_ref, spc4_num, spc4_Eq, spc4_Item, spc4_Parse, spc4_wakes]
    refine ex_br (fun h => ?_) (fun h => ?_)
    · have hlt : i < l.length := by simp at h; omega
      have hi6 : i < 6 := by simp at h; omega
      obtain ⟨a, ea⟩ : ∃ a, l[i]? = some a := ⟨_, List.getElem?_eq_getElem hlt⟩
      have ho := hok a (List.mem_of_getElem? ea)
      have hnum := ho.it.num
      unfold reachBytes at hnum
      have hh := c_law4_heavyW a.it a.s ho.it ho.s
      unfold askAv ItemD.cells at hh
      cases hv : heavyW a.it a.s with
      | true =>
        rw [hv] at hh
        simp only [go_sem, ↓reduceIte, Nat.reduceLT, Nat.reduceLeDiff, Nat.reduceAdd, Nat.reduceSub, Nat.reduceMul, Nat.reduceEqDiff, Nat.reduceBEq, Nat.reduceMod, Nat.reduceDiv, Int.reduceToNat, reduceCtorEq, Int.reduceLT, Int.reduceLE, Int.reduceGT, Int.reduceGE, Int.reduceAdd, Int.reduceSub, Int.reduceMul, Int.reduceNeg, Int.reduceEq, Int.reduceNe, Int.reduceBNe, Int.reduceBEq, Int.reduceDiv, spc4_heavy, spc4_Take, spc4_ref, spc4_num, spc4_Eq, spc4_Item, spc4_Parse, spc4_wakes, List.length_map, List.getElem?_map, ea, Int.toNat_natCast, Ask4.av, askAv, ItemD.cells]
        repeat with_reducible refine And.intro (by first | omega | (simp only [List.length_cons, List.length_append, List.length_nil, List.length_map, List.length_take, List.length_drop, List.length_set]; omega)) ?_
        try simp only [go_sem, ↓reduceIte, Nat.reduceLT, Nat.reduceLeDiff, Nat.reduceAdd, Nat.reduceSub, Nat.reduceMul, Nat.reduceEqDiff, Nat.reduceBEq, Nat.reduceMod, Nat.reduceDiv, Int.reduceToNat, reduceCtorEq, Int.reduceLT, Int.reduceLE, Int.reduceGT, Int.reduceGE, Int.reduceAdd, Int.reduceSub, Int.reduceMul, Int.reduceNeg, Int.reduceEq, Int.reduceNe, Int.reduceBNe, Int.reduceBEq, Int.reduceDiv, spc4_heavy, spc4_Take, spc4_ref, spc4_num, spc4_Eq, spc4_Item, spc4_Parse, spc4_wakes, ItemD.cells]
        refine ex_call (by exact hh) ?_
        simp only [go_sem, ↓reduceIte, Nat.reduceLT, Nat.reduceLeDiff, Nat.reduceAdd, Nat.reduceSub, Nat.reduceMul, Nat.reduceEqDiff, Nat.reduceBEq, Nat.reduceMod, Nat.reduceDiv, Int.reduceToNat, reduceCtorEq, Int.reduceLT, Int.reduceLE, Int.reduceGT, Int.reduceGE, Int.reduceAdd, Int.reduceSub, Int.reduceMul, Int.reduceNeg, Int.reduceEq, Int.reduceNe, Int.reduceBNe, Int.reduceBEq, Int.reduceDiv, spc4_heavy, spc4_Take, spc4_ref, spc4_num, spc4_Eq, spc4_Item, spc4_Parse, spc4_wakes]
        refine finOne ?_ (fun _ e => by cases e)
        show resOf _ _ [.tmp 2] = _
        simp only [go_sem, ↓reduceIte, Nat.reduceLT, Nat.reduceLeDiff, Nat.reduceAdd, Nat.reduceSub, Nat.reduceMul, Nat.reduceEqDiff, Nat.reduceBEq, Nat.reduceMod, Nat.reduceDiv, Int.reduceToNat, reduceCtorEq, Int.reduceLT, Int.reduceLE, Int.reduceGT, Int.reduceGE, Int.reduceAdd, Int.reduceSub, Int.reduceMul, Int.reduceNeg, Int.reduceEq, Int.reduceNe, Int.reduceBNe, Int.reduceBEq, Int.reduceDiv, spc4_heavy, spc4_Take, spc4_ref, spc4_num, spc4_Eq, spc4_Item, spc4_Parse, spc4_wakes]
      | false =>
        rw [hv] at hh
        have hv2 := heavyW_no hv
        have round : next = next := rfl
        simp only [go_sem, ↓reduceIte, Nat.reduceLT, Nat.reduceLeDiff, Nat.reduceAdd, Nat.reduceSub, Nat.reduceMul, Nat.reduceEqDiff, Nat.reduceBEq, Nat.reduceMod, Nat.reduceDiv, Int.reduceToNat, reduceCtorEq, Int.reduceLT, Int.reduceLE, Int.reduceGT, Int.reduceGE, Int.reduceAdd, Int.reduceSub, Int.reduceMul, Int.reduceNeg, Int.reduceEq, Int.reduceNe, Int.reduceBNe, Int.reduceBEq, Int.reduceDiv, spc4_heavy, spc4_Take, spc4_ref, spc4_num, spc4_Eq, spc4_Item, spc4_Parse, spc4_wakes, List.length_map, List.getElem?_map, ea, Int.toNat_natCast, Ask4.av, askAv, ItemD.cells]
        repeat with_reducible refine And.intro (by first | omega | (simp only [List.length_cons, List.length_append, List.length_nil, List.length_map, List.length_take, List.length_drop, List.length_set]; omega)) ?_
        try simp only [go_sem, ↓reduceIte, Nat.reduceLT, Nat.reduceLeDiff, Nat.reduceAdd, Nat.reduceSub, Nat.reduceMul, Nat.reduceEqDiff, Nat.reduceBEq, Nat.reduceMod, Nat.reduceDiv, Int.reduceToNat, reduceCtorEq, Int.reduceLT, Int.reduceLE, Int.reduceGT, Int.reduceGE, Int.reduceAdd, Int.reduceSub, Int.reduceMul, Int.reduceNeg, Int.reduceEq, Int.reduceNe, Int.reduceBNe, Int.reduceBEq, Int.reduceDiv, spc4_heavy, spc4_Take, spc4_ref, spc4_num, spc4_Eq, spc4_Item, spc4_Parse, spc4_wakes, ItemD.cells]
        refine ex_call (by exact hh) ?_
        have hT := c_item_TakeT a.s (by omega)
        have h1 := c_item_Parse a.s (by omega)
        have h2 := c_ref4_Take a.s (by omega)
        unfold parseAll at h1
        cases hp : parse 0 a.s with
        | error e =>
          have e0 : ((e : Int) == 0) = false := by rcases parse_err hp with rfl | rfl <;> rfl
          rw [hp] at hT h1 h2
          unfold resA at h1
          unfold resP at h2
          unfold resPT at hT
          try simp only [go_sem, ↓reduceIte, Nat.reduceLT, Nat.reduceLeDiff, Nat.reduceAdd, Nat.reduceSub, Nat.reduceMul, Nat.reduceEqDiff, Nat.reduceBEq, Nat.reduceMod, Nat.reduceDiv, Int.reduceToNat, reduceCtorEq, Int.reduceLT, Int.reduceLE, Int.reduceGT, Int.reduceGE, Int.reduceAdd, Int.reduceSub, Int.reduceMul, Int.reduceNeg, Int.reduceEq, Int.reduceNe, Int.reduceBNe, Int.reduceBEq, Int.reduceDiv, spc4_heavy, spc4_Take, spc4_ref, spc4_num, spc4_Eq, spc4_Item, spc4_Parse, spc4_wakes, List.length_map, List.getElem?_map, ea, Int.toNat_natCast, Ask4.av, askAv, ItemD.cells]
          repeat with_reducible refine And.intro (by first | omega | (simp only [List.length_cons, List.length_append, List.length_nil, List.length_map, List.length_take, List.length_drop, List.length_set]; omega)) ?_
          try simp only [go_sem, ↓reduceIte, Nat.reduceLT, Nat.reduceLeDiff, Nat.reduceAdd, Nat.reduceSub, Nat.reduceMul, Nat.reduceEqDiff, Nat.reduceBEq, Nat.reduceMod, Nat.reduceDiv, Int.reduceToNat, reduceCtorEq, Int.reduceLT, Int.reduceLE, Int.reduceGT, Int.reduceGE, Int.reduceAdd, Int.reduceSub, Int.reduceMul, Int.reduceNeg, Int.reduceEq, Int.reduceNe, Int.reduceBNe, Int.reduceBEq, Int.reduceDiv, spc4_heavy, spc4_Take, spc4_ref, spc4_num, spc4_Eq, spc4_Item, spc4_Parse, spc4_wakes, List.length_map, List.getElem?_map, ea, Int.toNat_natCast, Ask4.av, askAv, ItemD.cells]
          refine ex_fork (.cons (.refl _) .nil) (by exact hT) rfl rfl (fun z => ?_)
          try simp only [go_sem, ↓reduceIte, Nat.reduceLT, Nat.reduceLeDiff, Nat.reduceAdd, Nat.reduceSub, Nat.reduceMul, Nat.reduceEqDiff, Nat.reduceBEq, Nat.reduceMod, Nat.reduceDiv, Int.reduceToNat, reduceCtorEq, Int.reduceLT, Int.reduceLE, Int.reduceGT, Int.reduceGE, Int.reduceAdd, Int.reduceSub, Int.reduceMul, Int.reduceNeg, Int.reduceEq, Int.reduceNe, Int.reduceBNe, Int.reduceBEq, Int.reduceDiv, spc4_heavy, spc4_Take, spc4_ref, spc4_num, spc4_Eq, spc4_Item, spc4_Parse, spc4_wakes, List.length_map, List.getElem?_map, ea, Int.toNat_natCast, Ask4.av, askAv, ItemD.cells, ASt.stow, AV.stowT, AV.stowA, AV.stow]
          repeat with_reducible refine And.intro (by first | omega | (simp only [List.length_cons, List.length_append, List.length_nil, List.length_map, List.length_take, List.length_drop, List.length_set]; omega)) ?_
          try simp only [go_sem, ↓reduceIte, Nat.reduceLT, Nat.reduceLeDiff, Nat.reduceAdd, Nat.reduceSub, Nat.reduceMul, Nat.reduceEqDiff, Nat.reduceBEq, Nat.reduceMod, Nat.reduceDiv, Int.reduceToNat, reduceCtorEq, Int.reduceLT, Int.reduceLE, Int.reduceGT, Int.reduceGE, Int.reduceAdd, Int.reduceSub, Int.reduceMul, Int.reduceNeg, Int.reduceEq, Int.reduceNe, Int.reduceBNe, Int.reduceBEq, Int.reduceDiv, spc4_heavy, spc4_Take, spc4_ref, spc4_num, spc4_Eq, spc4_Item, spc4_Parse, spc4_wakes, List.length_map, List.getElem?_map, ea, Int.toNat_natCast, Ask4.av, askAv, ItemD.cells, ASt.stow, AV.stowT, AV.stowA, AV.stow]
          refine ex_call (by exact h2) ?_
          simp only [go_sem, ↓reduceIte, Nat.reduceLT, Nat.reduceLeDiff, Nat.reduceAdd, Nat.reduceSub, Nat.reduceMul, Nat.reduceEqDiff, Nat.reduceBEq, Nat.reduceMod, Nat.reduceDiv, Int.reduceToNat, reduceCtorEq, Int.reduceLT, Int.reduceLE, Int.reduceGT, Int.reduceGE, Int.reduceAdd, Int.reduceSub, Int.reduceMul, Int.reduceNeg, Int.reduceEq, Int.reduceNe, Int.reduceBNe, Int.reduceBEq, Int.reduceDiv, spc4_heavy, spc4_Take, spc4_ref, spc4_num, spc4_Eq, spc4_Item, spc4_Parse, spc4_wakes]
          refine ex_call (by exact c_law4_num _) ?_
          simp only [go_sem, ↓reduceIte, Nat.reduceLT, Nat.reduceLeDiff, Nat.reduceAdd, Nat.reduceSub, Nat.reduceMul, Nat.reduceEqDiff, Nat.reduceBEq, Nat.reduceMod, Nat.reduceDiv, Int.reduceToNat, reduceCtorEq, Int.reduceLT, Int.reduceLE, Int.reduceGT, Int.reduceGE, Int.reduceAdd, Int.reduceSub, Int.reduceMul, Int.reduceNeg, Int.reduceEq, Int.reduceNe, Int.reduceBNe, Int.reduceBEq, Int.reduceDiv, spc4_heavy, spc4_Take, spc4_ref, spc4_num, spc4_Eq, spc4_Item, spc4_Parse, spc4_wakes, bne_self_eq_false]
          refine ex_ask z (.head _) (.cons (itemT_by z (.mk false [] [])) (.cons (.dull (.refl _) rfl) .nil)) (by exact c_EqI (.mk false [] []) (.mk false [] []) nil_ok nil_ok) rfl ?_
          rw [decide_eq_true rfl]
          simp only [go_sem, ↓reduceIte, Nat.reduceLT, Nat.reduceLeDiff, Nat.reduceAdd, Nat.reduceSub, Nat.reduceMul, Nat.reduceEqDiff, Nat.reduceBEq, Nat.reduceMod, Nat.reduceDiv, Int.reduceToNat, reduceCtorEq, Int.reduceLT, Int.reduceLE, Int.reduceGT, Int.reduceGE, Int.reduceAdd, Int.reduceSub, Int.reduceMul, Int.reduceNeg, Int.reduceEq, Int.reduceNe, Int.reduceBNe, Int.reduceBEq, Int.reduceDiv, spc4_heavy, spc4_Take, spc4_ref, spc4_num, spc4_Eq, spc4_Item, spc4_Parse, spc4_wakes]
          refine ex_spoil z [] [] rfl rfl (itemT_sty z (.mk false [] [])) (spoil_I (.mk false [] []) nil_ok) ?_
          try simp only [go_sem, ↓reduceIte, Nat.reduceLT, Nat.reduceLeDiff, Nat.reduceAdd, Nat.reduceSub, Nat.reduceMul, Nat.reduceEqDiff, Nat.reduceBEq, Nat.reduceMod, Nat.reduceDiv, Int.reduceToNat, reduceCtorEq, Int.reduceLT, Int.reduceLE, Int.reduceGT, Int.reduceGE, Int.reduceAdd, Int.reduceSub, Int.reduceMul, Int.reduceNeg, Int.reduceEq, Int.reduceNe, Int.reduceBNe, Int.reduceBEq, Int.reduceDiv, spc4_heavy, spc4_Take, spc4_ref, spc4_num, spc4_Eq, spc4_Item, spc4_Parse, spc4_wakes, List.length_map, List.getElem?_map, ea, Int.toNat_natCast, Ask4.av, askAv, ItemD.cells, ASt.unstow]
          repeat with_reducible refine And.intro (by first | omega | (simp only [List.length_cons, List.length_append, List.length_nil, List.length_map, List.length_take, List.length_drop, List.length_set]; omega)) ?_
          try simp only [go_sem, ↓reduceIte, Nat.reduceLT, Nat.reduceLeDiff, Nat.reduceAdd, Nat.reduceSub, Nat.reduceMul, Nat.reduceEqDiff, Nat.reduceBEq, Nat.reduceMod, Nat.reduceDiv, Int.reduceToNat, reduceCtorEq, Int.reduceLT, Int.reduceLE, Int.reduceGT, Int.reduceGE, Int.reduceAdd, Int.reduceSub, Int.reduceMul, Int.reduceNeg, Int.reduceEq, Int.reduceNe, Int.reduceBNe, Int.reduceBEq, Int.reduceDiv, spc4_heavy, spc4_Take, spc4_ref, spc4_num, spc4_Eq, spc4_Item, spc4_Parse, spc4_wakes, List.length_map, List.getElem?_map, ea, Int.toNat_natCast, Ask4.av, askAv, ItemD.cells, ASt.unstow]
          refine ex_call (by exact h1) ?_
          simp only [go_sem, ↓reduceIte, Nat.reduceLT, Nat.reduceLeDiff, Nat.reduceAdd, Nat.reduceSub, Nat.reduceMul, Nat.reduceEqDiff, Nat.reduceBEq, Nat.reduceMod, Nat.reduceDiv, Int.reduceToNat, reduceCtorEq, Int.reduceLT, Int.reduceLE, Int.reduceGT, Int.reduceGE, Int.reduceAdd, Int.reduceSub, Int.reduceMul, Int.reduceNeg, Int.reduceEq, Int.reduceNe, Int.reduceBNe, Int.reduceBEq, Int.reduceDiv, spc4_heavy, spc4_Take, spc4_ref, spc4_num, spc4_Eq, spc4_Item, spc4_Parse, spc4_wakes, e0]
          refine ex_call (by exact c_law4_num _) ?_
          simp only [go_sem, ↓reduceIte, Nat.reduceLT, Nat.reduceLeDiff, Nat.reduceAdd, Nat.reduceSub, Nat.reduceMul, Nat.reduceEqDiff, Nat.reduceBEq, Nat.reduceMod, Nat.reduceDiv, Int.reduceToNat, reduceCtorEq, Int.reduceLT, Int.reduceLE, Int.reduceGT, Int.reduceGE, Int.reduceAdd, Int.reduceSub, Int.reduceMul, Int.reduceNeg, Int.reduceEq, Int.reduceNe, Int.reduceBNe, Int.reduceBEq, Int.reduceDiv, spc4_heavy, spc4_Take, spc4_ref, spc4_num, spc4_Eq, spc4_Item, spc4_Parse, spc4_wakes, bne_self_eq_false]
          refine ex_plain (.cons (.refl _) (.cons (.refl _) .nil)) (by exact c_EqI (.mk false [] []) (.mk false [] []) nil_ok nil_ok) ?_
          rw [decide_eq_true rfl]
          simp only [go_sem, ↓reduceIte, Nat.reduceLT, Nat.reduceLeDiff, Nat.reduceAdd, Nat.reduceSub, Nat.reduceMul, Nat.reduceEqDiff, Nat.reduceBEq, Nat.reduceMod, Nat.reduceDiv, Int.reduceToNat, reduceCtorEq, Int.reduceLT, Int.reduceLE, Int.reduceGT, Int.reduceGE, Int.reduceAdd, Int.reduceSub, Int.reduceMul, Int.reduceNeg, Int.reduceEq, Int.reduceNe, Int.reduceBNe, Int.reduceBEq, Int.reduceDiv, spc4_heavy, spc4_Take, spc4_ref, spc4_num, spc4_Eq, spc4_Item, spc4_Parse, spc4_wakes]
          refine next (i + 1) _ (by omega) (by omega) ?_
          rw [← wi64_nat i (by omega)]
          simp only [ASt.keep, consIf, keepL, keepV, AV.isBot, List.contains_cons, List.contains_nil, Nat.reduceBEq, Bool.or_false, Bool.false_or, Bool.or_true, Bool.true_or, beq_self_eq_true, Bool.false_eq_true, ↓reduceIte, if_false, if_true]
        | ok r =>
          obtain ⟨it, k⟩ := r
          have hio := parse_itok (by omega) hp
          have hle := (parse_ok hp).le
          rw [hp] at hT h1 h2
          unfold resP at h2
          unfold resPT at hT
          simp only at h1
          rcases Decidable.em (k < a.s.length) with hk | hk
          · rw [if_pos hk] at h1
            unfold resA at h1
            have e1 : ((k : Int) != (a.s.length : Int)) = true := by simp; omega
            try simp only [go_sem, ↓reduceIte, Nat.reduceLT, Nat.reduceLeDiff, Nat.reduceAdd, Nat.reduceSub, Nat.reduceMul, Nat.reduceEqDiff, Nat.reduceBEq, Nat.reduceMod, Nat.reduceDiv, Int.reduceToNat, reduceCtorEq, Int.reduceLT, Int.reduceLE, Int.reduceGT, Int.reduceGE, Int.reduceAdd, Int.reduceSub, Int.reduceMul, Int.reduceNeg, Int.reduceEq, Int.reduceNe, Int.reduceBNe, Int.reduceBEq, Int.reduceDiv, spc4_heavy, spc4_Take, spc4_ref, spc4_num, spc4_Eq, spc4_Item, spc4_Parse, spc4_wakes, List.length_map, List.getElem?_map, ea, Int.toNat_natCast, Ask4.av, askAv, ItemD.cells]
            repeat with_reducible refine And.intro (by first | omega | (simp only [List.length_cons, List.length_append, List.length_nil, List.length_map, List.length_take, List.length_drop, List.length_set]; omega)) ?_
            try simp only [go_sem, ↓reduceIte, Nat.reduceLT, Nat.reduceLeDiff, Nat.reduceAdd, Nat.reduceSub, Nat.reduceMul, Nat.reduceEqDiff, Nat.reduceBEq, Nat.reduceMod, Nat.reduceDiv, Int.reduceToNat, reduceCtorEq, Int.reduceLT, Int.reduceLE, Int.reduceGT, Int.reduceGE, Int.reduceAdd, Int.reduceSub, Int.reduceMul, Int.reduceNeg, Int.reduceEq, Int.reduceNe, Int.reduceBNe, Int.reduceBEq, Int.reduceDiv, spc4_heavy, spc4_Take, spc4_ref, spc4_num, spc4_Eq, spc4_Item, spc4_Parse, spc4_wakes, List.length_map, List.getElem?_map, ea, Int.toNat_natCast, Ask4.av, askAv, ItemD.cells]
            refine ex_fork (.cons (.refl _) .nil) (by exact hT) rfl rfl (fun z => ?_)
            try simp only [go_sem, ↓reduceIte, Nat.reduceLT, Nat.reduceLeDiff, Nat.reduceAdd, Nat.reduceSub, Nat.reduceMul, Nat.reduceEqDiff, Nat.reduceBEq, Nat.reduceMod, Nat.reduceDiv, Int.reduceToNat, reduceCtorEq, Int.reduceLT, Int.reduceLE, Int.reduceGT, Int.reduceGE, Int.reduceAdd, Int.reduceSub, Int.reduceMul, Int.reduceNeg, Int.reduceEq, Int.reduceNe, Int.reduceBNe, Int.reduceBEq, Int.reduceDiv, spc4_heavy, spc4_Take, spc4_ref, spc4_num, spc4_Eq, spc4_Item, spc4_Parse, spc4_wakes, List.length_map, List.getElem?_map, ea, Int.toNat_natCast, Ask4.av, askAv, ItemD.cells, ASt.stow, AV.stowT, AV.stowA, AV.stow]
            repeat with_reducible refine And.intro (by first | omega | (simp only [List.length_cons, List.length_append, List.length_nil, List.length_map, List.length_take, List.length_drop, List.length_set]; omega)) ?_
            try simp only [go_sem, ↓reduceIte, Nat.reduceLT, Nat.reduceLeDiff, Nat.reduceAdd, Nat.reduceSub, Nat.reduceMul, Nat.reduceEqDiff, Nat.reduceBEq, Nat.reduceMod, Nat.reduceDiv, Int.reduceToNat, reduceCtorEq, Int.reduceLT, Int.reduceLE, Int.reduceGT, Int.reduceGE, Int.reduceAdd, Int.reduceSub, Int.reduceMul, Int.reduceNeg, Int.reduceEq, Int.reduceNe, Int.reduceBNe, Int.reduceBEq, Int.reduceDiv, spc4_heavy, spc4_Take, spc4_ref, spc4_num, spc4_Eq, spc4_Item, spc4_Parse, spc4_wakes, List.length_map, List.getElem?_map, ea, Int.toNat_natCast, Ask4.av, askAv, ItemD.cells, ASt.stow, AV.stowT, AV.stowA, AV.stow]
            refine ex_call (by exact h2) ?_
            simp only [go_sem, ↓reduceIte, Nat.reduceLT, Nat.reduceLeDiff, Nat.reduceAdd, Nat.reduceSub, Nat.reduceMul, Nat.reduceEqDiff, Nat.reduceBEq, Nat.reduceMod, Nat.reduceDiv, Int.reduceToNat, reduceCtorEq, Int.reduceLT, Int.reduceLE, Int.reduceGT, Int.reduceGE, Int.reduceAdd, Int.reduceSub, Int.reduceMul, Int.reduceNeg, Int.reduceEq, Int.reduceNe, Int.reduceBNe, Int.reduceBEq, Int.reduceDiv, spc4_heavy, spc4_Take, spc4_ref, spc4_num, spc4_Eq, spc4_Item, spc4_Parse, spc4_wakes]
            refine ex_call (by exact c_law4_num _) ?_
            simp only [go_sem, ↓reduceIte, Nat.reduceLT, Nat.reduceLeDiff, Nat.reduceAdd, Nat.reduceSub, Nat.reduceMul, Nat.reduceEqDiff, Nat.reduceBEq, Nat.reduceMod, Nat.reduceDiv, Int.reduceToNat, reduceCtorEq, Int.reduceLT, Int.reduceLE, Int.reduceGT, Int.reduceGE, Int.reduceAdd, Int.reduceSub, Int.reduceMul, Int.reduceNeg, Int.reduceEq, Int.reduceNe, Int.reduceBNe, Int.reduceBEq, Int.reduceDiv, spc4_heavy, spc4_Take, spc4_ref, spc4_num, spc4_Eq, spc4_Item, spc4_Parse, spc4_wakes, bne_self_eq_false]
            refine ex_ask z (.head _) (.cons (itemT_by z it) (.cons (.dull (.refl _) rfl) .nil)) (by exact c_EqI it it hio hio) rfl ?_
            rw [decide_eq_true rfl]
            simp only [go_sem, ↓reduceIte, Nat.reduceLT, Nat.reduceLeDiff, Nat.reduceAdd, Nat.reduceSub, Nat.reduceMul, Nat.reduceEqDiff, Nat.reduceBEq, Nat.reduceMod, Nat.reduceDiv, Int.reduceToNat, reduceCtorEq, Int.reduceLT, Int.reduceLE, Int.reduceGT, Int.reduceGE, Int.reduceAdd, Int.reduceSub, Int.reduceMul, Int.reduceNeg, Int.reduceEq, Int.reduceNe, Int.reduceBNe, Int.reduceBEq, Int.reduceDiv, spc4_heavy, spc4_Take, spc4_ref, spc4_num, spc4_Eq, spc4_Item, spc4_Parse, spc4_wakes]
            refine ex_spoil z [] [] rfl rfl (itemT_sty z it) (spoil_I it hio) ?_
            try simp only [go_sem, ↓reduceIte, Nat.reduceLT, Nat.reduceLeDiff, Nat.reduceAdd, Nat.reduceSub, Nat.reduceMul, Nat.reduceEqDiff, Nat.reduceBEq, Nat.reduceMod, Nat.reduceDiv, Int.reduceToNat, reduceCtorEq, Int.reduceLT, Int.reduceLE, Int.reduceGT, Int.reduceGE, Int.reduceAdd, Int.reduceSub, Int.reduceMul, Int.reduceNeg, Int.reduceEq, Int.reduceNe, Int.reduceBNe, Int.reduceBEq, Int.reduceDiv, spc4_heavy, spc4_Take, spc4_ref, spc4_num, spc4_Eq, spc4_Item, spc4_Parse, spc4_wakes, List.length_map, List.getElem?_map, ea, Int.toNat_natCast, Ask4.av, askAv, ItemD.cells, ASt.unstow]
            repeat with_reducible refine And.intro (by first | omega | (simp only [List.length_cons, List.length_append, List.length_nil, List.length_map, List.length_take, List.length_drop, List.length_set]; omega)) ?_
            try simp only [go_sem, ↓reduceIte, Nat.reduceLT, Nat.reduceLeDiff, Nat.reduceAdd, Nat.reduceSub, Nat.reduceMul, Nat.reduceEqDiff, Nat.reduceBEq, Nat.reduceMod, Nat.reduceDiv, Int.reduceToNat, reduceCtorEq, Int.reduceLT, Int.reduceLE, Int.reduceGT, Int.reduceGE, Int.reduceAdd, Int.reduceSub, Int.reduceMul, Int.reduceNeg, Int.reduceEq, Int.reduceNe, Int.reduceBNe, Int.reduceBEq, Int.reduceDiv, spc4_heavy, spc4_Take, spc4_ref, spc4_num, spc4_Eq, spc4_Item, spc4_Parse, spc4_wakes, List.length_map, List.getElem?_map, ea, Int.toNat_natCast, Ask4.av, askAv, ItemD.cells, ASt.unstow]
            refine ex_call (by exact h1) ?_
            try simp only [go_sem, ↓reduceIte, Nat.reduceLT, Nat.reduceLeDiff, Nat.reduceAdd, Nat.reduceSub, Nat.reduceMul, Nat.reduceEqDiff, Nat.reduceBEq, Nat.reduceMod, Nat.reduceDiv, Int.reduceToNat, reduceCtorEq, Int.reduceLT, Int.reduceLE, Int.reduceGT, Int.reduceGE, Int.reduceAdd, Int.reduceSub, Int.reduceMul, Int.reduceNeg, Int.reduceEq, Int.reduceNe, Int.reduceBNe, Int.reduceBEq, Int.reduceDiv, spc4_heavy, spc4_Take, spc4_ref, spc4_num, spc4_Eq, spc4_Item, spc4_Parse, spc4_wakes, List.length_map, List.getElem?_map, ea, Int.toNat_natCast, Ask4.av, askAv, ItemD.cells]
            repeat with_reducible refine And.intro (by first | omega | (simp only [List.length_cons, List.length_append, List.length_nil, List.length_map, List.length_take, List.length_drop, List.length_set]; omega)) ?_
            try simp only [go_sem, ↓reduceIte, Nat.reduceLT, Nat.reduceLeDiff, Nat.reduceAdd, Nat.reduceSub, Nat.reduceMul, Nat.reduceEqDiff, Nat.reduceBEq, Nat.reduceMod, Nat.reduceDiv, Int.reduceToNat, reduceCtorEq, Int.reduceLT, Int.reduceLE, Int.reduceGT, Int.reduceGE, Int.reduceAdd, Int.reduceSub, Int.reduceMul, Int.reduceNeg, Int.reduceEq, Int.reduceNe, Int.reduceBNe, Int.reduceBEq, Int.reduceDiv, spc4_heavy, spc4_Take, spc4_ref, spc4_num, spc4_Eq, spc4_Item, spc4_Parse, spc4_wakes, List.length_map, List.getElem?_map, ea, Int.toNat_natCast, Ask4.av, askAv, ItemD.cells]
            simp only [go_sem, ↓reduceIte, Nat.reduceLT, Nat.reduceLeDiff, Nat.reduceAdd, Nat.reduceSub, Nat.reduceMul, Nat.reduceEqDiff, Nat.reduceBEq, Nat.reduceMod, Nat.reduceDiv, Int.reduceToNat, reduceCtorEq, Int.reduceLT, Int.reduceLE, Int.reduceGT, Int.reduceGE, Int.reduceAdd, Int.reduceSub, Int.reduceMul, Int.reduceNeg, Int.reduceEq, Int.reduceNe, Int.reduceBNe, Int.reduceBEq, Int.reduceDiv, spc4_heavy, spc4_Take, spc4_ref, spc4_num, spc4_Eq, spc4_Item, spc4_Parse, spc4_wakes, e1]
            refine ex_call (by exact c_law4_num _) ?_
            simp only [go_sem, ↓reduceIte, Nat.reduceLT, Nat.reduceLeDiff, Nat.reduceAdd, Nat.reduceSub, Nat.reduceMul, Nat.reduceEqDiff, Nat.reduceBEq, Nat.reduceMod, Nat.reduceDiv, Int.reduceToNat, reduceCtorEq, Int.reduceLT, Int.reduceLE, Int.reduceGT, Int.reduceGE, Int.reduceAdd, Int.reduceSub, Int.reduceMul, Int.reduceNeg, Int.reduceEq, Int.reduceNe, Int.reduceBNe, Int.reduceBEq, Int.reduceDiv, spc4_heavy, spc4_Take, spc4_ref, spc4_num, spc4_Eq, spc4_Item, spc4_Parse, spc4_wakes, Int.cast_ofNat_Int, bne_self_eq_false]
            refine ex_plain (.cons (.refl _) (.cons (dull_none _ _) .nil)) (by exact c_EqI (.mk false [] []) (.mk false [] []) nil_ok nil_ok) ?_
            rw [decide_eq_true rfl]
            simp only [go_sem, ↓reduceIte, Nat.reduceLT, Nat.reduceLeDiff, Nat.reduceAdd, Nat.reduceSub, Nat.reduceMul, Nat.reduceEqDiff, Nat.reduceBEq, Nat.reduceMod, Nat.reduceDiv, Int.reduceToNat, reduceCtorEq, Int.reduceLT, Int.reduceLE, Int.reduceGT, Int.reduceGE, Int.reduceAdd, Int.reduceSub, Int.reduceMul, Int.reduceNeg, Int.reduceEq, Int.reduceNe, Int.reduceBNe, Int.reduceBEq, Int.reduceDiv, spc4_heavy, spc4_Take, spc4_ref, spc4_num, spc4_Eq, spc4_Item, spc4_Parse, spc4_wakes]
            refine next (i + 1) _ (by omega) (by omega) ?_
            rw [← wi64_nat i (by omega)]
            simp only [ASt.keep, consIf, keepL, keepV, AV.isBot, List.contains_cons, List.contains_nil, Nat.reduceBEq, Bool.or_false, Bool.false_or, Bool.or_true, Bool.true_or, beq_self_eq_true, Bool.false_eq_true, ↓reduceIte, if_false, if_true]
          · rw [if_neg hk] at h1
            unfold resA at h1
            have e1 : ((k : Int) != (a.s.length : Int)) = false := by simp; omega
            try simp only [go_sem, ↓reduceIte, Nat.reduceLT, Nat.reduceLeDiff, Nat.reduceAdd, Nat.reduceSub, Nat.reduceMul, Nat.reduceEqDiff, Nat.reduceBEq, Nat.reduceMod, Nat.reduceDiv, Int.reduceToNat, reduceCtorEq, Int.reduceLT, Int.reduceLE, Int.reduceGT, Int.reduceGE, Int.reduceAdd, Int.reduceSub, Int.reduceMul, Int.reduceNeg, Int.reduceEq, Int.reduceNe, Int.reduceBNe, Int.reduceBEq, Int.reduceDiv, spc4_heavy, spc4_Take, spc4_ref, spc4_num, spc4_Eq, spc4_Item, spc4_Parse, spc4_wakes, List.length_map, List.getElem?_map, ea, Int.toNat_natCast, Ask4.av, askAv, ItemD.cells]
            repeat with_reducible refine And.intro (by first | omega | (simp only [List.length_cons, List.length_append, List.length_nil, List.length_map, List.length_take, List.length_drop, List.length_set]; omega)) ?_
            try simp only [go_sem, ↓reduceIte, Nat.reduceLT, Nat.reduceLeDiff, Nat.reduceAdd, Nat.reduceSub, Nat.reduceMul, Nat.reduceEqDiff, Nat.reduceBEq, Nat.reduceMod, Nat.reduceDiv, Int.reduceToNat, reduceCtorEq, Int.reduceLT, Int.reduceLE, Int.reduceGT, Int.reduceGE, Int.reduceAdd, Int.reduceSub, Int.reduceMul, Int.reduceNeg, Int.reduceEq, Int.reduceNe, Int.reduceBNe, Int.reduceBEq, Int.reduceDiv, spc4_heavy, spc4_Take, spc4_ref, spc4_num, spc4_Eq, spc4_Item, spc4_Parse, spc4_wakes, List.length_map, List.getElem?_map, ea, Int.toNat_natCast, Ask4.av, askAv, ItemD.cells]
            refine ex_fork (.cons (.refl _) .nil) (by exact hT) rfl rfl (fun z => ?_)
            try simp only [go_sem, ↓reduceIte, Nat.reduceLT, Nat.reduceLeDiff, Nat.reduceAdd, Nat.reduceSub, Nat.reduceMul, Nat.reduceEqDiff, Nat.reduceBEq, Nat.reduceMod, Nat.reduceDiv, Int.reduceToNat, reduceCtorEq, Int.reduceLT, Int.reduceLE, Int.reduceGT, Int.reduceGE, Int.reduceAdd, Int.reduceSub, Int.reduceMul, Int.reduceNeg, Int.reduceEq, Int.reduceNe, Int.reduceBNe, Int.reduceBEq, Int.reduceDiv, spc4_heavy, spc4_Take, spc4_ref, spc4_num, spc4_Eq, spc4_Item, spc4_Parse, spc4_wakes, List.length_map, List.getElem?_map, ea, Int.toNat_natCast, Ask4.av, askAv, ItemD.cells, ASt.stow, AV.stowT, AV.stowA, AV.stow]
            repeat with_reducible refine And.intro (by first | omega | (simp only [List.length_cons, List.length_append, List.length_nil, List.length_map, List.length_take, List.length_drop, List.length_set]; omega)) ?_
            try simp only [go_sem, ↓reduceIte, Nat.reduceLT, Nat.reduceLeDiff, Nat.reduceAdd, Nat.reduceSub, Nat.reduceMul, Nat.reduceEqDiff, Nat.reduceBEq, Nat.reduceMod, Nat.reduceDiv, Int.reduceToNat, reduceCtorEq, Int.reduceLT, Int.reduceLE, Int.reduceGT, Int.reduceGE, Int.reduceAdd, Int.reduceSub, Int.reduceMul, Int.reduceNeg, Int.reduceEq, Int.reduceNe, Int.reduceBNe, Int.reduceBEq, Int.reduceDiv, spc4_heavy, spc4_Take, spc4_ref, spc4_num, spc4_Eq, spc4_Item, spc4_Parse, spc4_wakes, List.length_map, List.getElem?_map, ea, Int.toNat_natCast, Ask4.av, askAv, ItemD.cells, ASt.stow, AV.stowT, AV.stowA, AV.stow]
            refine ex_call (by exact h2) ?_
            simp only [go_sem, ↓reduceIte, Nat.reduceLT, Nat.reduceLeDiff, Nat.reduceAdd, Nat.reduceSub, Nat.reduceMul, Nat.reduceEqDiff, Nat.reduceBEq, Nat.reduceMod, Nat.reduceDiv, Int.reduceToNat, reduceCtorEq, Int.reduceLT, Int.reduceLE, Int.reduceGT, Int.reduceGE, Int.reduceAdd, Int.reduceSub, Int.reduceMul, Int.reduceNeg, Int.reduceEq, Int.reduceNe, Int.reduceBNe, Int.reduceBEq, Int.reduceDiv, spc4_heavy, spc4_Take, spc4_ref, spc4_num, spc4_Eq, spc4_Item, spc4_Parse, spc4_wakes]
            refine ex_call (by exact c_law4_num _) ?_
            simp only [go_sem, ↓reduceIte, Nat.reduceLT, Nat.reduceLeDiff, Nat.reduceAdd, Nat.reduceSub, Nat.reduceMul, Nat.reduceEqDiff, Nat.reduceBEq, Nat.reduceMod, Nat.reduceDiv, Int.reduceToNat, reduceCtorEq, Int.reduceLT, Int.reduceLE, Int.reduceGT, Int.reduceGE, Int.reduceAdd, Int.reduceSub, Int.reduceMul, Int.reduceNeg, Int.reduceEq, Int.reduceNe, Int.reduceBNe, Int.reduceBEq, Int.reduceDiv, spc4_heavy, spc4_Take, spc4_ref, spc4_num, spc4_Eq, spc4_Item, spc4_Parse, spc4_wakes, bne_self_eq_false]
            refine ex_ask z (.head _) (.cons (itemT_by z it) (.cons (.dull (.refl _) rfl) .nil)) (by exact c_EqI it it hio hio) rfl ?_
            rw [decide_eq_true rfl]
            simp only [go_sem, ↓reduceIte, Nat.reduceLT, Nat.reduceLeDiff, Nat.reduceAdd, Nat.reduceSub, Nat.reduceMul, Nat.reduceEqDiff, Nat.reduceBEq, Nat.reduceMod, Nat.reduceDiv, Int.reduceToNat, reduceCtorEq, Int.reduceLT, Int.reduceLE, Int.reduceGT, Int.reduceGE, Int.reduceAdd, Int.reduceSub, Int.reduceMul, Int.reduceNeg, Int.reduceEq, Int.reduceNe, Int.reduceBNe, Int.reduceBEq, Int.reduceDiv, spc4_heavy, spc4_Take, spc4_ref, spc4_num, spc4_Eq, spc4_Item, spc4_Parse, spc4_wakes]
            refine ex_spoil z [] [] rfl rfl (itemT_sty z it) (spoil_I it hio) ?_
            try simp only [go_sem, ↓reduceIte, Nat.reduceLT, Nat.reduceLeDiff, Nat.reduceAdd, Nat.reduceSub, Nat.reduceMul, Nat.reduceEqDiff, Nat.reduceBEq, Nat.reduceMod, Nat.reduceDiv, Int.reduceToNat, reduceCtorEq, Int.reduceLT, Int.reduceLE, Int.reduceGT, Int.reduceGE, Int.reduceAdd, Int.reduceSub, Int.reduceMul, Int.reduceNeg, Int.reduceEq, Int.reduceNe, Int.reduceBNe, Int.reduceBEq, Int.reduceDiv, spc4_heavy, spc4_Take, spc4_ref, spc4_num, spc4_Eq, spc4_Item, spc4_Parse, spc4_wakes, List.length_map, List.getElem?_map, ea, Int.toNat_natCast, Ask4.av, askAv, ItemD.cells, ASt.unstow]
            repeat with_reducible refine And.intro (by first | omega | (simp only [List.length_cons, List.length_append, List.length_nil, List.length_map, List.length_take, List.length_drop, List.length_set]; omega)) ?_
            try simp only [go_sem, ↓reduceIte, Nat.reduceLT, Nat.reduceLeDiff, Nat.reduceAdd, Nat.reduceSub, Nat.reduceMul, Nat.reduceEqDiff, Nat.reduceBEq, Nat.reduceMod, Nat.reduceDiv, Int.reduceToNat, reduceCtorEq, Int.reduceLT, Int.reduceLE, Int.reduceGT, Int.reduceGE, Int.reduceAdd, Int.reduceSub, Int.reduceMul, Int.reduceNeg, Int.reduceEq, Int.reduceNe, Int.reduceBNe, Int.reduceBEq, Int.reduceDiv, spc4_heavy, spc4_Take, spc4_ref, spc4_num, spc4_Eq, spc4_Item, spc4_Parse, spc4_wakes, List.length_map, List.getElem?_map, ea, Int.toNat_natCast, Ask4.av, askAv, ItemD.cells, ASt.unstow]
            refine ex_call (by exact h1) ?_
            try simp only [go_sem, ↓reduceIte, Nat.reduceLT, Nat.reduceLeDiff, Nat.reduceAdd, Nat.reduceSub, Nat.reduceMul, Nat.reduceEqDiff, Nat.reduceBEq, Nat.reduceMod, Nat.reduceDiv, Int.reduceToNat, reduceCtorEq, Int.reduceLT, Int.reduceLE, Int.reduceGT, Int.reduceGE, Int.reduceAdd, Int.reduceSub, Int.reduceMul, Int.reduceNeg, Int.reduceEq, Int.reduceNe, Int.reduceBNe, Int.reduceBEq, Int.reduceDiv, spc4_heavy, spc4_Take, spc4_ref, spc4_num, spc4_Eq, spc4_Item, spc4_Parse, spc4_wakes, List.length_map, List.getElem?_map, ea, Int.toNat_natCast, Ask4.av, askAv, ItemD.cells]
            repeat with_reducible refine And.intro (by first | omega | (simp only [List.length_cons, List.length_append, List.length_nil, List.length_map, List.length_take, List.length_drop, List.length_set]; omega)) ?_
            try simp only [go_sem, ↓reduceIte, Nat.reduceLT, Nat.reduceLeDiff, Nat.reduceAdd, Nat.reduceSub, Nat.reduceMul, Nat.reduceEqDiff, Nat.reduceBEq, Nat.reduceMod, Nat.reduceDiv, Int.reduceToNat, reduceCtorEq, Int.reduceLT, Int.reduceLE, Int.reduceGT, Int.reduceGE, Int.reduceAdd, Int.reduceSub, Int.reduceMul, Int.reduceNeg, Int.reduceEq, Int.reduceNe, Int.reduceBNe, Int.reduceBEq, Int.reduceDiv, spc4_heavy, spc4_Take, spc4_ref, spc4_num, spc4_Eq, spc4_Item, spc4_Parse, spc4_wakes, List.length_map, List.getElem?_map, ea, Int.toNat_natCast, Ask4.av, askAv, ItemD.cells]
            simp only [go_sem, ↓reduceIte, Nat.reduceLT, Nat.reduceLeDiff, Nat.reduceAdd, Nat.reduceSub, Nat.reduceMul, Nat.reduceEqDiff, Nat.reduceBEq, Nat.reduceMod, Nat.reduceDiv, Int.reduceToNat, reduceCtorEq, Int.reduceLT, Int.reduceLE, Int.reduceGT, Int.reduceGE, Int.reduceAdd, Int.reduceSub, Int.reduceMul, Int.reduceNeg, Int.reduceEq, Int.reduceNe, Int.reduceBNe, Int.reduceBEq, Int.reduceDiv, spc4_heavy, spc4_Take, spc4_ref, spc4_num, spc4_Eq, spc4_Item, spc4_Parse, spc4_wakes, e1]
            refine ex_call (by exact c_law4_num _) ?_
            simp only [go_sem, ↓reduceIte, Nat.reduceLT, Nat.reduceLeDiff, Nat.reduceAdd, Nat.reduceSub, Nat.reduceMul, Nat.reduceEqDiff, Nat.reduceBEq, Nat.reduceMod, Nat.reduceDiv, Int.reduceToNat, reduceCtorEq, Int.reduceLT, Int.reduceLE, Int.reduceGT, Int.reduceGE, Int.reduceAdd, Int.reduceSub, Int.reduceMul, Int.reduceNeg, Int.reduceEq, Int.reduceNe, Int.reduceBNe, Int.reduceBEq, Int.reduceDiv, spc4_heavy, spc4_Take, spc4_ref, spc4_num, spc4_Eq, spc4_Item, spc4_Parse, spc4_wakes, bne_self_eq_false]
            refine ex_plain (.cons (.refl _) (.cons (.refl _) .nil)) (by exact c_EqI it it hio hio) ?_
            rw [decide_eq_true rfl]
            simp only [go_sem, ↓reduceIte, Nat.reduceLT, Nat.reduceLeDiff, Nat.reduceAdd, Nat.reduceSub, Nat.reduceMul, Nat.reduceEqDiff, Nat.reduceBEq, Nat.reduceMod, Nat.reduceDiv, Int.reduceToNat, reduceCtorEq, Int.reduceLT, Int.reduceLE, Int.reduceGT, Int.reduceGE, Int.reduceAdd, Int.reduceSub, Int.reduceMul, Int.reduceNeg, Int.reduceEq, Int.reduceNe, Int.reduceBNe, Int.reduceBEq, Int.reduceDiv, spc4_heavy, spc4_Take, spc4_ref, spc4_num, spc4_Eq, spc4_Item, spc4_Parse, spc4_wakes]
            refine next (i + 1) _ (by omega) (by omega) ?_
            rw [← wi64_nat i (by omega)]
            simp only [ASt.keep, consIf, keepL, keepV, AV.isBot, List.contains_cons, List.contains_nil, Nat.reduceBEq, Bool.or_false, Bool.false_or, Bool.or_true, Bool.true_or, beq_self_eq_true, Bool.false_eq_true, ↓reduceIte, if_false, if_true]
    · simp only [go_sem, ↓reduceIte, Nat.reduceLT, Nat.reduceLeDiff, Nat.reduceAdd, Nat.reduceSub, Nat.reduceMul, Nat.reduceEqDiff, Nat.reduceBEq, Nat.reduceMod, Nat.reduceDiv, Int.reduceToNat, reduceCtorEq, Int.reduceLT, Int.reduceLE, Int.reduceGT, Int.reduceGE, Int.reduceAdd, Int.reduceSub, Int.reduceMul, Int.reduceNeg, Int.reduceEq, Int.reduceNe, Int.reduceBNe, Int.reduceBEq, Int.reduceDiv, spc4_heavy, spc4_Take, spc4_ref, spc4_num, spc4_Eq, spc4_Item, spc4_Parse, spc4_wakes]
      refine ex_call (by exact c_law4_wakes) ?_
      simp only [go_sem, ↓reduceIte, Nat.reduceLT, Nat.reduceLeDiff, Nat.reduceAdd, Nat.reduceSub, Nat.reduceMul, Nat.reduceEqDiff, Nat.reduceBEq, Nat.reduceMod, Nat.reduceDiv, Int.reduceToNat, reduceCtorEq, Int.reduceLT, Int.reduceLE, Int.reduceGT, Int.reduceGE, Int.reduceAdd, Int.reduceSub, Int.reduceMul, Int.reduceNeg, Int.reduceEq, Int.reduceNe, Int.reduceBNe, Int.reduceBEq, Int.reduceDiv, spc4_heavy, spc4_Take, spc4_ref, spc4_num, spc4_Eq, spc4_Item, spc4_Parse, spc4_wakes]
      refine finOne ?_ (fun _ e => by cases e)
      show resOf _ _ [.tmp 2] = _
      simp only [go_sem, ↓reduceIte, Nat.reduceLT, Nat.reduceLeDiff, Nat.reduceAdd, Nat.reduceSub, Nat.reduceMul, Nat.reduceEqDiff, Nat.reduceBEq, Nat.reduceMod, Nat.reduceDiv, Int.reduceToNat, reduceCtorEq, Int.reduceLT, Int.reduceLE, Int.reduceGT, Int.reduceGE, Int.reduceAdd, Int.reduceSub, Int.reduceMul, Int.reduceNeg, Int.reduceEq, Int.reduceNe, Int.reduceBNe, Int.reduceBEq, Int.reduceDiv, spc4_heavy, spc4_Take, spc4_ref, spc4_num, spc4_Eq, spc4_Item, spc4_Parse, spc4_wakes]
theorem law_ItemTakes (x : AV) (h : Ty ti 22 x) : Contract Try.prog 4 [x] (.bool true) := by
  obtain ⟨l, rfl, hl, hok⟩ := ty_asks4W h
  exact c_ItemTakes l hl hok
end Go.Proofs.Ytmngjlgeojbghaa.VA
end
section
namespace Go.Proofs.Ytmngjlgeojbghaa.VA
set_option maxRecDepth 10000
set_option maxHeartbeats 4000000

theorem c_ItemParses (l : List Ask4) (hl : l.length ≤ 281474976710656) (hok : ∀ a ∈ l, a.wide) : Contract Try.prog 5 [asks4 l] (.bool true) := by
  refine contract_of (C := cf 67 [0, 2, 3, 4, 5, 6, 7, 8, 16, 23, 54, 65] (fun _ => [])) (cf_ok _ _ _) (fn := Try.f5) Try.func5 (by kernel_rfl) rfl (by kernel_rfl) (by simp [cf]) (plain1 (asks4_plain l)) (by decide) (noCell (by kernel_rfl)) ?_
  simp only [go_sem, ↓reduceIte, Nat.reduceLT, Nat.reduceLeDiff, Nat.reduceAdd, Nat.reduceSub, Nat.reduceMul, Nat.reduceEqDiff, Nat.reduceBEq, Nat.reduceMod, Nat.reduceDiv, Int.reduceToNat, reduceCtorEq, Int.reduceLT, Int.reduceLE, Int.reduceGT, Int.reduceGE, Int.reduceAdd, Int.reduceSub, Int.reduceMul, Int.reduceNeg, Int.reduceEq, Int.reduceNe, Int.reduceBNe, Int.reduceBEq, Int.reduceDiv, asks4]
  refine ex_iter [0, 3] (fun i : Nat => ⟨[(0, .sl false 4 (l.map Ask4.av)), (3, .int .i64 i)], [], []⟩) (fun i => i ≤ l.length) (fun i => l.length - i) 0 ?_ ?_ ?_
  · simp only [ASt.keep, consIf, keepL, keepV, AV.isBot, List.contains_cons, List.contains_nil, Nat.reduceBEq, Bool.or_false, Bool.false_or, Bool.or_true, Bool.true_or, beq_self_eq_true, Bool.false_eq_true, ↓reduceIte, if_false, if_true]
    rfl
  · exact Nat.zero_le _
  · intro n i hi next
    simp only [go_sem, ↓reduceIte, Nat.reduceLT, Nat.reduceLeDiff, Nat.reduceAdd, Nat.reduceSub, Nat.reduceMul, Nat.reduceEqDiff, Nat.reduceBEq, Nat.reduceMod, Nat.reduceDiv, Int.reduceToNat, reduceCtorEq, Int.reduceLT, Int.reduceLE, Int.reduceGT, Int.reduceGE, Int.reduceAdd, Int.reduceSub, Int.reduceMul, Int.reduceNeg, Int.reduceEq, Int.reduceNe, Int.reduceBNe, Int.reduceBEq, Int.reduceDiv, List.length_map]
    refine ex_joinB 16 (decide (i < l.length) && decide (i < 6)) ?_ ?_
    · repeat' (first | (refine ex_split (fun h => ?_) (fun h => ?_)) | (with_reducible refine And.intro (by omega) ?_) |
        (simp only [go_sem, ↓reduceIte, Nat.reduceLT, Nat.reduceLeDiff, Nat.reduceAdd, Nat.reduceSub, Nat.reduceMul, Nat.reduceEqDiff, Nat.reduceBEq, Nat.reduceMod, Nat.reduceDiv, Int.reduceToNat, reduceCtorEq, Int.reduceLT, Int.reduceLE, Int.reduceGT, Int.reduceGE, Int.reduceAdd, Int.reduceSub, Int.reduceMul, Int.reduceNeg, Int.reduceEq, Int.reduceNe, Int.reduceBNe, Int.reduceBEq, Int.reduceDiv]))
      all_goals (try simp only [ASt.mk.injEq, List.cons.injEq, Prod.mk.injEq, AV.bool.injEq, true_and, and_true, eq_self])
      all_goals first | (simp_all; done) | (simp_all; omega) | (rw [Bool.eq_iff_iff]; simp only [List.length_map, Bool.or_eq_true, Bool.and_eq_true, Bool.not_eq_true', Bool.not_eq_false', decide_eq_true_eq, decide_eq_false_iff_not, bne_iff_ne, beq_iff_eq, ne_eq, true_iff, iff_true, false_iff, iff_false, Bool.false_eq_true, not_false_eq_true, not_true_eq_false] at *; omega)
    simp only [go_sem, ↓reduceIte, Nat.reduceLT, Nat.reduceLeDiff, Nat.reduceAdd, Nat.reduceSub, Nat.reduceMul, Nat.reduceEqDiff, Nat.reduceBEq, Nat.reduceMod, Nat.reduceDiv, Int.reduceToNat, reduceCtorEq, Int.reduceLT, Int.reduceLE, Int.reduceGT, Int.reduceGE, Int.reduceAdd, Int.reduceSub, Int.reduceMul, Int.reduceNeg, Int.reduceEq, Int.reduceNe, Int.reduceBNe, Int.reduceBEq, Int.reduceDiv]
    refine ex_br (fun h => ?_) (fun h => ?_)
    · have hlt : i < l.length := by simp at h; omega
      have hi6 : i < 6 := by simp at h; omega
      obtain ⟨a, ea⟩ : ∃ a, l[i]? = some a := ⟨_, List.getElem?_eq_getElem hlt⟩
      have ho := hok a (List.mem_of_getElem? ea)
      have hit := ho.it
      have hnum := ho.it.num
      unfold reachBytes at hnum
      have hh := c_law4_heavyW a.it a.s ho.it ho.s
      unfold askAv ItemD.cells at hh
      cases hv : heavyW a.it a.s with
      | true =>
        rw [hv] at hh
        simp only [go_sem, ↓reduceIte, Nat.reduceLT, Nat.reduceLeDiff, Nat.reduceAdd, Nat.reduceSub, Nat.reduceMul, Nat.reduceEqDiff, Nat.reduceBEq, Nat.reduceMod, Nat.reduceDiv, Int.reduceToNat, reduceCtorEq, Int.reduceLT, Int.reduceLE, Int.reduceGT, Int.reduceGE, Int.reduceAdd, Int.reduceSub, Int.reduceMul, Int.reduceNeg, Int.reduceEq, Int.reduceNe, Int.reduceBNe, Int.reduceBEq, Int.reduceDiv, List.length_map, List.getElem?_map, ea, Int.toNat_natCast, Ask4.av, askAv, ItemD.cells]
        repeat with_reducible refine And.intro (by first | omega | (simp only [List.length_cons, List.length_append, List.length_nil, List.length_map, List.length_take, List.length_drop, List.length_set]; omega)) ?_
        try simp only [go_sem, ↓reduceIte, Nat.reduceLT, Nat.reduceLeDiff, Nat.reduceAdd, Nat.reduceSub, Nat.reduceMul, Nat.reduceEqDiff, Nat.reduceBEq, Nat.reduceMod, Nat.reduceDiv, Int.reduceToNat, reduceCtorEq, Int.reduceLT, Int.reduceLE, Int.reduceGT, Int.reduceGE, Int.reduceAdd, Int.reduceSub, Int.reduceMul, Int.reduceNeg, Int.reduceEq, Int.reduceNe, Int.reduceBNe, Int.reduceBEq, Int.reduceDiv, ItemD.cells]
        refine ex_call (by exact hh) ?_
        simp only [go_sem, ↓reduceIte, Nat.reduceLT, Nat.reduceLeDiff, Nat.reduceAdd, Nat.reduceSub, Nat.reduceMul, Nat.reduceEqDiff, Nat.reduceBEq, Nat.reduceMod, Nat.reduceDiv, Int.reduceToNat, reduceCtorEq, Int.reduceLT, Int.reduceLE, Int.reduceGT, Int.reduceGE, Int.reduceAdd, Int.reduceSub, Int.reduceMul, Int.reduceNeg, Int.reduceEq, Int.reduceNe, Int.reduceBNe, Int.reduceBEq, Int.reduceDiv]
        refine finOne ?_ (fun _ e => by cases e)
        show resOf _ _ [.tmp 2] = _
        simp only [go_sem, ↓reduceIte, Nat.reduceLT, Nat.reduceLeDiff, Nat.reduceAdd, Nat.reduceSub, Nat.reduceMul, Nat.reduceEqDiff, Nat.reduceBEq, Nat.reduceMod, Nat.reduceDiv, Int.reduceToNat, reduceCtorEq, Int.reduceLT, Int.reduceLE, Int.reduceGT, Int.reduceGE, Int.reduceAdd, Int.reduceSub, Int.reduceMul, Int.reduceNeg, Int.reduceEq, Int.reduceNe, Int.reduceBNe, Int.reduceBEq, Int.reduceDiv]
      | false =>
        rw [hv] at hh
        have hv2 := heavyW_no hv
        have round : next = next := rfl
        simp only [go_sem, ↓reduceIte, Nat.reduceLT, Nat.reduceLeDiff, Nat.reduceAdd, Nat.reduceSub, Nat.reduceMul, Nat.reduceEqDiff, Nat.reduceBEq, Nat.reduceMod, Nat.reduceDiv, Int.reduceToNat, reduceCtorEq, Int.reduceLT, Int.reduceLE, Int.reduceGT, Int.reduceGE, Int.reduceAdd, Int.reduceSub, Int.reduceMul, Int.reduceNeg, Int.reduceEq, Int.reduceNe, Int.reduceBNe, Int.reduceBEq, Int.reduceDiv, List.length_map, List.getElem?_map, ea, Int.toNat_natCast, Ask4.av, askAv, ItemD.cells]
        repeat with_reducible refine And.intro (by first | omega | (simp only [List.length_cons, List.length_append, List.length_nil, List.length_map, List.length_take, List.length_drop, List.length_set]; omega)) ?_
        try simp only [go_sem, ↓reduceIte, Nat.reduceLT, Nat.reduceLeDiff, Nat.reduceAdd, Nat.reduceSub, Nat.reduceMul, Nat.reduceEqDiff, Nat.reduceBEq, Nat.reduceMod, Nat.reduceDiv, Int.reduceToNat, reduceCtorEq, Int.reduceLT, Int.reduceLE, Int.reduceGT, Int.reduceGE, Int.reduceAdd, Int.reduceSub, Int.reduceMul, Int.reduceNeg, Int.reduceEq, Int.reduceNe, Int.reduceBNe, Int.reduceBEq, Int.reduceDiv, ItemD.cells]
        refine ex_call (by exact hh) ?_
        have h1 := c_item_Parse a.s (by omega)
        have h2 := c_ref4_Take a.s (by omega)
        unfold parseAll at h1
        cases hp : parse 0 a.s with
        | error e =>
          have e0 : ((e : Int) == 0) = false := by rcases parse_err hp with rfl | rfl <;> rfl
          rw [hp] at h1 h2
          unfold resA at h1
          unfold resP at h2
          try simp only [go_sem, ↓reduceIte, Nat.reduceLT, Nat.reduceLeDiff, Nat.reduceAdd, Nat.reduceSub, Nat.reduceMul, Nat.reduceEqDiff, Nat.reduceBEq, Nat.reduceMod, Nat.reduceDiv, Int.reduceToNat, reduceCtorEq, Int.reduceLT, Int.reduceLE, Int.reduceGT, Int.reduceGE, Int.reduceAdd, Int.reduceSub, Int.reduceMul, Int.reduceNeg, Int.reduceEq, Int.reduceNe, Int.reduceBNe, Int.reduceBEq, Int.reduceDiv, List.length_map, List.getElem?_map, ea, Int.toNat_natCast, Ask4.av, askAv, ItemD.cells]
          repeat with_reducible refine And.intro (by first | omega | (simp only [List.length_cons, List.length_append, List.length_nil, List.length_map, List.length_take, List.length_drop, List.length_set]; omega)) ?_
          try simp only [go_sem, ↓reduceIte, Nat.reduceLT, Nat.reduceLeDiff, Nat.reduceAdd, Nat.reduceSub, Nat.reduceMul, Nat.reduceEqDiff, Nat.reduceBEq, Nat.reduceMod, Nat.reduceDiv, Int.reduceToNat, reduceCtorEq, Int.reduceLT, Int.reduceLE, Int.reduceGT, Int.reduceGE, Int.reduceAdd, Int.reduceSub, Int.reduceMul, Int.reduceNeg, Int.reduceEq, Int.reduceNe, Int.reduceBNe, Int.reduceBEq, Int.reduceDiv, ItemD.cells]
          refine ex_call (by exact h1) ?_
          try simp only [go_sem, ↓reduceIte, Nat.reduceLT, Nat.reduceLeDiff, Nat.reduceAdd, Nat.reduceSub, Nat.reduceMul, Nat.reduceEqDiff, Nat.reduceBEq, Nat.reduceMod, Nat.reduceDiv, Int.reduceToNat, reduceCtorEq, Int.reduceLT, Int.reduceLE, Int.reduceGT, Int.reduceGE, Int.reduceAdd, Int.reduceSub, Int.reduceMul, Int.reduceNeg, Int.reduceEq, Int.reduceNe, Int.reduceBNe, Int.reduceBEq, Int.reduceDiv, List.length_map, List.getElem?_map, ea, Int.toNat_natCast, Ask4.av, askAv, ItemD.cells]
          repeat with_reducible refine And.intro (by first | omega | (simp only [List.length_cons, List.length_append, List.length_nil, List.length_map, List.length_take, List.length_drop, List.length_set]; omega)) ?_
          try simp only [go_sem, ↓reduceIte, Nat.reduceLT, Nat.reduceLeDiff, Nat.reduceAdd, Nat.reduceSub, Nat.reduceMul, Nat.reduceEqDiff, Nat.reduceBEq, Nat.reduceMod, Nat.reduceDiv, Int.reduceToNat, reduceCtorEq, Int.reduceLT, Int.reduceLE, Int.reduceGT, Int.reduceGE, Int.reduceAdd, Int.reduceSub, Int.reduceMul, Int.reduceNeg, Int.reduceEq, Int.reduceNe, Int.reduceBNe, Int.reduceBEq, Int.reduceDiv, ItemD.cells]
          refine ex_call (by exact h2) ?_
          simp only [go_sem, ↓reduceIte, Nat.reduceLT, Nat.reduceLeDiff, Nat.reduceAdd, Nat.reduceSub, Nat.reduceMul, Nat.reduceEqDiff, Nat.reduceBEq, Nat.reduceMod, Nat.reduceDiv, Int.reduceToNat, reduceCtorEq, Int.reduceLT, Int.reduceLE, Int.reduceGT, Int.reduceGE, Int.reduceAdd, Int.reduceSub, Int.reduceMul, Int.reduceNeg, Int.reduceEq, Int.reduceNe, Int.reduceBNe, Int.reduceBEq, Int.reduceDiv, e0]
          refine ex_call (by exact c_law4_num _) ?_
          simp only [go_sem, ↓reduceIte, Nat.reduceLT, Nat.reduceLeDiff, Nat.reduceAdd, Nat.reduceSub, Nat.reduceMul, Nat.reduceEqDiff, Nat.reduceBEq, Nat.reduceMod, Nat.reduceDiv, Int.reduceToNat, reduceCtorEq, Int.reduceLT, Int.reduceLE, Int.reduceGT, Int.reduceGE, Int.reduceAdd, Int.reduceSub, Int.reduceMul, Int.reduceNeg, Int.reduceEq, Int.reduceNe, Int.reduceBNe, Int.reduceBEq, Int.reduceDiv, bne_self_eq_false]
          refine ex_call (by exact c_EqI (.mk false [] []) (.mk false [] []) nil_ok nil_ok) ?_
          rw [decide_eq_true rfl]
          simp only [go_sem, ↓reduceIte, Nat.reduceLT, Nat.reduceLeDiff, Nat.reduceAdd, Nat.reduceSub, Nat.reduceMul, Nat.reduceEqDiff, Nat.reduceBEq, Nat.reduceMod, Nat.reduceDiv, Int.reduceToNat, reduceCtorEq, Int.reduceLT, Int.reduceLE, Int.reduceGT, Int.reduceGE, Int.reduceAdd, Int.reduceSub, Int.reduceMul, Int.reduceNeg, Int.reduceEq, Int.reduceNe, Int.reduceBNe, Int.reduceBEq, Int.reduceDiv]
          refine next (i + 1) _ (by omega) (by omega) ?_
          rw [← wi64_nat i (by omega)]
          simp only [ASt.keep, consIf, keepL, keepV, AV.isBot, List.contains_cons, List.contains_nil, Nat.reduceBEq, Bool.or_false, Bool.false_or, Bool.or_true, Bool.true_or, beq_self_eq_true, Bool.false_eq_true, ↓reduceIte, if_false, if_true]
        | ok r =>
          obtain ⟨it, k⟩ := r
          have hio := parse_itok (by omega) hp
          have hle := (parse_ok hp).le
          rw [hp] at h1 h2
          unfold resP at h2
          simp only at h1
          rcases Decidable.em (k < a.s.length) with hk | hk
          · rw [if_pos hk] at h1
            unfold resA at h1
            have e1 : ((k : Int) != (a.s.length : Int)) = true := by simp; omega
            try simp only [go_sem, ↓reduceIte, Nat.reduceLT, Nat.reduceLeDiff, Nat.reduceAdd, Nat.reduceSub, Nat.reduceMul, Nat.reduceEqDiff, Nat.reduceBEq, Nat.reduceMod, Nat.reduceDiv, Int.reduceToNat, reduceCtorEq, Int.reduceLT, Int.reduceLE, Int.reduceGT, Int.reduceGE, Int.reduceAdd, Int.reduceSub, Int.reduceMul, Int.reduceNeg, Int.reduceEq, Int.reduceNe, Int.reduceBNe, Int.reduceBEq, Int.reduceDiv, List.length_map, List.getElem?_map, ea, Int.toNat_natCast, Ask4.av, askAv, ItemD.cells]
            repeat with_reducible refine And.intro (by first | omega | (simp only [List.length_cons, List.length_append, List.length_nil, List.length_map, List.length_take, List.length_drop, List.length_set]; omega)) ?_
            try simp only [go_sem, ↓reduceIte, Nat.reduceLT, Nat.reduceLeDiff, Nat.reduceAdd, Nat.reduceSub, Nat.reduceMul, Nat.reduceEqDiff, Nat.reduceBEq, Nat.reduceMod, Nat.reduceDiv, Int.reduceToNat, reduceCtorEq, Int.reduceLT, Int.reduceLE, Int.reduceGT, Int.reduceGE, Int.reduceAdd, Int.reduceSub, Int.reduceMul, Int.reduceNeg, Int.reduceEq, Int.reduceNe, Int.reduceBNe, Int.reduceBEq, Int.reduceDiv, ItemD.cells]
            refine ex_call (by exact h1) ?_
            try simp only [go_sem, ↓reduceIte, Nat.reduceLT, Nat.reduceLeDiff, Nat.reduceAdd, Nat.reduceSub, Nat.reduceMul, Nat.reduceEqDiff, Nat.reduceBEq, Nat.reduceMod, Nat.reduceDiv, Int.reduceToNat, reduceCtorEq, Int.reduceLT, Int.reduceLE, Int.reduceGT, Int.reduceGE, Int.reduceAdd, Int.reduceSub, Int.reduceMul, Int.reduceNeg, Int.reduceEq, Int.reduceNe, Int.reduceBNe, Int.reduceBEq, Int.reduceDiv, List.length_map, List.getElem?_map, ea, Int.toNat_natCast, Ask4.av, askAv, ItemD.cells]
            repeat with_reducible refine And.intro (by first | omega | (simp only [List.length_cons, List.length_append, List.length_nil, List.length_map, List.length_take, List.length_drop, List.length_set]; omega)) ?_
            try simp only [go_sem, ↓reduceIte, Nat.reduceLT, Nat.reduceLeDiff, Nat.reduceAdd, Nat.reduceSub, Nat.reduceMul, Nat.reduceEqDiff, Nat.reduceBEq, Nat.reduceMod, Nat.reduceDiv, Int.reduceToNat, reduceCtorEq, Int.reduceLT, Int.reduceLE, Int.reduceGT, Int.reduceGE, Int.reduceAdd, Int.reduceSub, Int.reduceMul, Int.reduceNeg, Int.reduceEq, Int.reduceNe, Int.reduceBNe, Int.reduceBEq, Int.reduceDiv, ItemD.cells]
            refine ex_call (by exact h2) ?_
            try simp only [go_sem, ↓reduceIte, Nat.reduceLT, Nat.reduceLeDiff, Nat.reduceAdd, Nat.reduceSub, Nat.reduceMul, Nat.reduceEqDiff, Nat.reduceBEq, Nat.reduceMod, Nat.reduceDiv, Int.reduceToNat, reduceCtorEq, Int.reduceLT, Int.reduceLE, Int.reduceGT, Int.reduceGE, Int.reduceAdd, Int.reduceSub, Int.reduceMul, Int.reduceNeg, Int.reduceEq, Int.reduceNe, Int.reduceBNe, Int.reduceBEq, Int.reduceDiv, List.length_map, List.getElem?_map, ea, Int.toNat_natCast, Ask4.av, askAv, ItemD.cells]
            repeat with_reducible refine And.intro (by first | omega | (simp only [List.length_cons, List.length_append, List.length_nil, List.length_map, List.length_take, List.length_drop, List.length_set]; omega)) ?_
            try simp only [go_sem, ↓reduceIte, Nat.reduceLT, Nat.reduceLeDiff, Nat.reduceAdd, Nat.reduceSub, Nat.reduceMul, Nat.reduceEqDiff, Nat.reduceBEq, Nat.reduceMod, Nat.reduceDiv, Int.reduceToNat, reduceCtorEq, Int.reduceLT, Int.reduceLE, Int.reduceGT, Int.reduceGE, Int.reduceAdd, Int.reduceSub, Int.reduceMul, Int.reduceNeg, Int.reduceEq, Int.reduceNe, Int.reduceBNe, Int.reduceBEq, Int.reduceDiv, ItemD.cells]
            simp only [go_sem, ↓reduceIte, Nat.reduceLT, Nat.reduceLeDiff, Nat.reduceAdd, Nat.reduceSub, Nat.reduceMul, Nat.reduceEqDiff, Nat.reduceBEq, Nat.reduceMod, Nat.reduceDiv, Int.reduceToNat, reduceCtorEq, Int.reduceLT, Int.reduceLE, Int.reduceGT, Int.reduceGE, Int.reduceAdd, Int.reduceSub, Int.reduceMul, Int.reduceNeg, Int.reduceEq, Int.reduceNe, Int.reduceBNe, Int.reduceBEq, Int.reduceDiv, e1]
            refine ex_call (by exact c_law4_num _) ?_
            simp only [go_sem, ↓reduceIte, Nat.reduceLT, Nat.reduceLeDiff, Nat.reduceAdd, Nat.reduceSub, Nat.reduceMul, Nat.reduceEqDiff, Nat.reduceBEq, Nat.reduceMod, Nat.reduceDiv, Int.reduceToNat, reduceCtorEq, Int.reduceLT, Int.reduceLE, Int.reduceGT, Int.reduceGE, Int.reduceAdd, Int.reduceSub, Int.reduceMul, Int.reduceNeg, Int.reduceEq, Int.reduceNe, Int.reduceBNe, Int.reduceBEq, Int.reduceDiv, Int.cast_ofNat_Int]
            refine ex_call_dull (.cons (.refl _) (.cons (dull_none _ _) .nil)) (by exact c_EqI (.mk false [] []) (.mk false [] []) nil_ok nil_ok) ?_
            rw [decide_eq_true rfl]
            simp only [go_sem, ↓reduceIte, Nat.reduceLT, Nat.reduceLeDiff, Nat.reduceAdd, Nat.reduceSub, Nat.reduceMul, Nat.reduceEqDiff, Nat.reduceBEq, Nat.reduceMod, Nat.reduceDiv, Int.reduceToNat, reduceCtorEq, Int.reduceLT, Int.reduceLE, Int.reduceGT, Int.reduceGE, Int.reduceAdd, Int.reduceSub, Int.reduceMul, Int.reduceNeg, Int.reduceEq, Int.reduceNe, Int.reduceBNe, Int.reduceBEq, Int.reduceDiv]
            refine next (i + 1) _ (by omega) (by omega) ?_
            rw [← wi64_nat i (by omega)]
            simp only [ASt.keep, consIf, keepL, keepV, AV.isBot, List.contains_cons, List.contains_nil, Nat.reduceBEq, Bool.or_false, Bool.false_or, Bool.or_true, Bool.true_or, beq_self_eq_true, Bool.false_eq_true, ↓reduceIte, if_false, if_true]
          · rw [if_neg hk] at h1
            unfold resA at h1
            have e1 : ((k : Int) != (a.s.length : Int)) = false := by simp; omega
            try simp only [go_sem, ↓reduceIte, Nat.reduceLT, Nat.reduceLeDiff, Nat.reduceAdd, Nat.reduceSub, Nat.reduceMul, Nat.reduceEqDiff, Nat.reduceBEq, Nat.reduceMod, Nat.reduceDiv, Int.reduceToNat, reduceCtorEq, Int.reduceLT, Int.reduceLE, Int.reduceGT, Int.reduceGE, Int.reduceAdd, Int.reduceSub, Int.reduceMul, Int.reduceNeg, Int.reduceEq, Int.reduceNe, Int.reduceBNe, Int.reduceBEq, Int.reduceDiv, List.length_map, List.getElem?_map, ea, Int.toNat_natCast, Ask4.av, askAv, ItemD.cells]
            repeat with_reducible refine And.intro (by first | omega | (simp only [List.length_cons, List.length_append, List.length_nil, List.length_map, List.length_take, List.length_drop, List.length_set]; omega)) ?_
            try simp only [go_sem, ↓reduceIte, Nat.reduceLT, Nat.reduceLeDiff, Nat.reduceAdd, Nat.reduceSub, Nat.reduceMul, Nat.reduceEqDiff, Nat.reduceBEq, Nat.reduceMod, Nat.reduceDiv, Int.reduceToNat, reduceCtorEq, Int.reduceLT, Int.reduceLE, Int.reduceGT, Int.reduceGE, Int.reduceAdd, Int.reduceSub, Int.reduceMul, Int.reduceNeg, Int.reduceEq, Int.reduceNe, Int.reduceBNe, Int.reduceBEq, Int.reduceDiv, ItemD.cells]
            refine ex_call (by exact h1) ?_
            try simp only [go_sem, ↓reduceIte, Nat.reduceLT, Nat.reduceLeDiff, Nat.reduceAdd, Nat.reduceSub, Nat.reduceMul, Nat.reduceEqDiff, Nat.reduceBEq, Nat.reduceMod, Nat.reduceDiv, Int.reduceToNat, reduceCtorEq, Int.reduceLT, Int.reduceLE, Int.reduceGT, Int.reduceGE, Int.reduceAdd, Int.reduceSub, Int.reduceMul, Int.reduceNeg, Int.reduceEq, Int.reduceNe, Int.reduceBNe, Int.reduceBEq, Int.reduceDiv, List.length_map, List.getElem?_map, ea, Int.toNat_natCast, Ask4.av, askAv, ItemD.cells]
            repeat with_reducible refine And.intro (by first | omega | (simp only [List.length_cons, List.length_append, List.length_nil, List.length_map, List.length_take, List.length_drop, List.length_set]; omega)) ?_
            try simp only [go_sem, ↓reduceIte, Nat.reduceLT, Nat.reduceLeDiff, Nat.reduceAdd, Nat.reduceSub, Nat.reduceMul, Nat.reduceEqDiff, Nat.reduceBEq, Nat.reduceMod, Nat.reduceDiv, Int.reduceToNat, reduceCtorEq, Int.reduceLT, Int.reduceLE, Int.reduceGT, Int.reduceGE, Int.reduceAdd, Int.reduceSub, Int.reduceMul, Int.reduceNeg, Int.reduceEq, Int.reduceNe, Int.reduceBNe, Int.reduceBEq, Int.reduceDiv, ItemD.cells]
            refine ex_call (by exact h2) ?_
            try simp only [go_sem, ↓reduceIte, Nat.reduceLT, Nat.reduceLeDiff, Nat.reduceAdd, Nat.reduceSub, Nat.reduceMul, Nat.reduceEqDiff, Nat.reduceBEq, Nat.reduceMod, Nat.reduceDiv, Int.reduceToNat, reduceCtorEq, Int.reduceLT, Int.reduceLE, Int.reduceGT, Int.reduceGE, Int.reduceAdd, Int.reduceSub, Int.reduceMul, Int.reduceNeg, Int.reduceEq, Int.reduceNe, Int.reduceBNe, Int.reduceBEq, Int.reduceDiv, List.length_map, List.getElem?_map, ea, Int.toNat_natCast, Ask4.av, askAv, ItemD.cells]
            repeat with_reducible refine And.intro (by first | omega | (simp only [List.length_cons, List.length_append, List.length_nil, List.length_map, List.length_take, List.length_drop, List.length_set]; omega)) ?_
            try simp only [go_sem, ↓reduceIte, Nat.reduceLT, Nat.reduceLeDiff, Nat.reduceAdd, Nat.reduceSub, Nat.reduceMul, Nat.reduceEqDiff, Nat.reduceBEq, Nat.reduceMod, Nat.reduceDiv, Int.reduceToNat, reduceCtorEq, Int.reduceLT, Int.reduceLE, Int.reduceGT, Int.reduceGE, Int.reduceAdd, Int.reduceSub, Int.reduceMul, Int.reduceNeg, Int.reduceEq, Int.reduceNe, Int.reduceBNe, Int.reduceBEq, Int.reduceDiv, ItemD.cells]
            simp only [go_sem, ↓reduceIte, Nat.reduceLT, Nat.reduceLeDiff, Nat.reduceAdd, Nat.reduceSub, Nat.reduceMul, Nat.reduceEqDiff, Nat.reduceBEq, Nat.reduceMod, Nat.reduceDiv, Int.reduceToNat, reduceCtorEq, Int.reduceLT, Int.reduceLE, Int.reduceGT, Int.reduceGE, Int.reduceAdd, Int.reduceSub, Int.reduceMul, Int.reduceNeg, Int.reduceEq, Int.reduceNe, Int.reduceBNe, Int.reduceBEq, Int.reduceDiv, e1]
            refine ex_call (by exact c_law4_num _) ?_
            simp only [go_sem, ↓reduceIte, Nat.reduceLT, Nat.reduceLeDiff, Nat.reduceAdd, Nat.reduceSub, Nat.reduceMul, Nat.reduceEqDiff, Nat.reduceBEq, Nat.reduceMod, Nat.reduceDiv, Int.reduceToNat, reduceCtorEq, Int.reduceLT, Int.reduceLE, Int.reduceGT, Int.reduceGE, Int.reduceAdd, Int.reduceSub, Int.reduceMul, Int.reduceNeg, Int.reduceEq, Int.reduceNe, Int.reduceBNe, Int.reduceBEq, Int.reduceDiv]
            refine ex_call (by exact c_EqI it it hio hio) ?_
            rw [decide_eq_true rfl]
            simp only [go_sem, ↓reduceIte, Nat.reduceLT, Nat.reduceLeDiff, Nat.reduceAdd, Nat.reduceSub, Nat.reduceMul, Nat.reduceEqDiff, Nat.reduceBEq, Nat.reduceMod, Nat.reduceDiv, Int.reduceToNat, reduceCtorEq, Int.reduceLT, Int.reduceLE, Int.reduceGT, Int.reduceGE, Int.reduceAdd, Int.reduceSub, Int.reduceMul, Int.reduceNeg, Int.reduceEq, Int.reduceNe, Int.reduceBNe, Int.reduceBEq, Int.reduceDiv]
            refine next (i + 1) _ (by omega) (by omega) ?_
            rw [← wi64_nat i (by omega)]
            simp only [ASt.keep, consIf, keepL, keepV, AV.isBot, List.contains_cons, List.contains_nil, Nat.reduceBEq, Bool.or_false, Bool.false_or, Bool.or_true, Bool.true_or, beq_self_eq_true, Bool.false_eq_true, ↓reduceIte, if_false, if_true]
    · simp only [go_sem, ↓reduceIte, Nat.reduceLT, Nat.reduceLeDiff, Nat.reduceAdd, Nat.reduceSub, Nat.reduceMul, Nat.reduceEqDiff, Nat.reduceBEq, Nat.reduceMod, Nat.reduceDiv, Int.reduceToNat, reduceCtorEq, Int.reduceLT, Int.reduceLE, Int.reduceGT, Int.reduceGE, Int.reduceAdd, Int.reduceSub, Int.reduceMul, Int.reduceNeg, Int.reduceEq, Int.reduceNe, Int.reduceBNe, Int.reduceBEq, Int.reduceDiv]
      refine ex_call (by exact c_law4_wakes) ?_
      simp only [go_sem, ↓reduceIte, Nat.reduceLT, Nat.reduceLeDiff, Nat.reduceAdd, Nat.reduceSub, Nat.reduceMul, Nat.reduceEqDiff, Nat.reduceBEq, Nat.reduceMod, Nat.reduceDiv, Int.reduceToNat, reduceCtorEq, Int.reduceLT, Int.reduceLE, Int.reduceGT, Int.reduceGE, Int.reduceAdd, Int.reduceSub, Int.reduceMul, Int.reduceNeg, Int.reduceEq, Int.reduceNe, Int.reduceBNe, Int.reduceBEq, Int.reduceDiv]
      refine finOne ?_ (fun _ e => by cases e)
      show resOf _ _ [.tmp 2] = _
      simp only [go_sem, ↓reduceIte, Nat.reduceLT, Nat.reduceLeDiff, Nat.reduceAdd, Nat.reduceSub, Nat.reduceMul, Nat.reduceEqDiff, Nat.reduceBEq, Nat.reduceMod, Nat.reduceDiv, Int.reduceToNat, reduceCtorEq, Int.reduceLT, Int.reduceLE, Int.reduceGT, Int.reduceGE, Int.reduceAdd, Int.reduceSub, Int.reduceMul, Int.reduceNeg, Int.reduceEq, Int.reduceNe, Int.reduceBNe, Int.reduceBEq, Int.reduceDiv]
theorem law_ItemParses (x : AV) (h : Ty ti 22 x) : Contract Try.prog 5 [x] (.bool true) := by
  obtain ⟨l, rfl, hl, hok⟩ := ty_asks4W h
  exact c_ItemParses l hl hok
end Go.Proofs.Ytmngjlgeojbghaa.VA
end
section
namespace Go.Proofs.Ytmngjlgeojbghaa.VA
set_option maxRecDepth 10000
set_option maxHeartbeats 8000000

theorem okI_len {d : Nat} {it : ItemD} (h : okI d it = true) : (rawOf it).length ≤ 65536 := by
  cases hl : it.list with
  | false => rw [okI_text d hl, Bool.and_eq_true, decide_eq_true_eq] at h; exact h.2
  | true => rw [okI_list d hl, Bool.and_eq_true, decide_eq_true_eq] at h; exact h.2
theorem c_BytesIW (a : ItemD) (ha : WideI a) : Contract Try.prog 7 [.agg [.bool a.list, .str a.text, .sl false 3 (a.items.map ItemD.av)]] (.tup [.str (bytesI a), .int .i64 (if okI 0 a = true then 0 else 1)]) := by
  have h := c_item_BytesW a ha
  rw [itA_av a] at h
  exact h
theorem c_ItemBack (l : List Ask4) (hl : l.length ≤ 281474976710656) (hok : ∀ a ∈ l, a.wide) : Contract Try.prog 3 [asks4 l] (.bool true) := by
  refine contract_of (C := cf 140 [0, 2, 3, 4, 5, 6, 7, 8, 9, 12, 13, 14, 15, 16, 17, 25, 32, 44, 75, 79, 96, 109, 138] (fun _ => [])) (cf_ok _ _ _) (fn := Try.f3) Try.func3 (by kernel_rfl) rfl (by kernel_rfl) (by simp [cf]) (plain1 (asks4_plain l)) (by decide) (noCell (by kernel_rfl)) ?_
  simp only [go_sem, ↓reduceIte, Nat.reduceLT, Nat.reduceLeDiff, Nat.reduceAdd, Nat.reduceSub, Nat.reduceMul, Nat.reduceEqDiff, Nat.reduceBEq, Nat.reduceMod, Nat.reduceDiv, Int.reduceToNat, reduceCtorEq, Int.reduceLT, Int.reduceLE, Int.reduceGT, Int.reduceGE, Int.reduceAdd, Int.reduceSub, Int.reduceMul, Int.reduceNeg, Int.reduceEq, Int.reduceNe, Int.reduceBNe, Int.reduceBEq, Int.reduceDiv, asks4]
  refine ex_iter [0, 3] (fun i : Nat => ⟨[(0, .sl false 4 (l.map Ask4.av)), (3, .int .i64 i)], [], []⟩) (fun i => i ≤ l.length) (fun i => l.length - i) 0 ?_ ?_ ?_
  · simp only [ASt.keep, consIf, keepL, keepV, AV.isBot, List.contains_cons, List.contains_nil, Nat.reduceBEq, Bool.or_false, Bool.false_or, Bool.or_true, Bool.true_or, beq_self_eq_true, Bool.false_eq_true, ↓reduceIte, if_false, if_true]
    rfl
  · exact Nat.zero_le _
  · intro n i hi next
    simp only [go_sem, ↓reduceIte, Nat.reduceLT, Nat.reduceLeDiff, Nat.reduceAdd, Nat.reduceSub, Nat.reduceMul, Nat.reduceEqDiff, Nat.reduceBEq, Nat.reduceMod, Nat.reduceDiv, Int.reduceToNat, reduceCtorEq, Int.reduceLT, Int.reduceLE, Int.reduceGT, Int.reduceGE, Int.reduceAdd, Int.reduceSub, Int.reduceMul, Int.reduceNeg, Int.reduceEq, Int.reduceNe, Int.reduceBNe, Int.reduceBEq, Int.reduceDiv, List.length_map]
    refine ex_joinB 25 (decide (i < l.length) && decide (i < 6)) ?_ ?_
    · repeat' (first | (refine ex_split (fun h => ?_) (fun h => ?_)) | (with_reducible refine And.intro (by omega) ?_) |
        (simp only [go_sem, ↓reduceIte, Nat.reduceLT, Nat.reduceLeDiff, Nat.reduceAdd, Nat.reduceSub, Nat.reduceMul, Nat.reduceEqDiff, Nat.reduceBEq, Nat.reduceMod, Nat.reduceDiv, Int.reduceToNat, reduceCtorEq, Int.reduceLT, Int.reduceLE, Int.reduceGT, Int.reduceGE, Int.reduceAdd, Int.reduceSub, Int.reduceMul, Int.reduceNeg, Int.reduceEq, Int.reduceNe, Int.reduceBNe, Int.reduceBEq, Int.reduceDiv]))
      all_goals (try simp only [ASt.mk.injEq, List.cons.injEq, Prod.mk.injEq, AV.bool.injEq, true_and, and_true, eq_self])
      all_goals first | (simp_all; done) | (simp_all; omega) | (rw [Bool.eq_iff_iff]; simp only [List.length_map, Bool.or_eq_true, Bool.and_eq_true, Bool.not_eq_true', Bool.not_eq_false', decide_eq_true_eq, decide_eq_false_iff_not, bne_iff_ne, beq_iff_eq, ne_eq, true_iff, iff_true, false_iff, iff_false, Bool.false_eq_true, not_false_eq_true, not_true_eq_false] at *; omega)
    simp only [go_sem, ↓reduceIte, Nat.reduceLT, Nat.reduceLeDiff, Nat.reduceAdd, Nat.reduceSub, Nat.reduceMul, Nat.reduceEqDiff, Nat.reduceBEq, Nat.reduceMod, Nat.reduceDiv, Int.reduceToNat, reduceCtorEq, Int.reduceLT, Int.reduceLE, Int.reduceGT, Int.reduceGE, Int.reduceAdd, Int.reduceSub, Int.reduceMul, Int.reduceNeg, Int.reduceEq, Int.reduceNe, Int.reduceBNe, Int.reduceBEq, Int.reduceDiv]
    refine ex_br (fun h => ?_) (fun h => ?_)
    · have hlt : i < l.length := by simp at h; omega
      have hi6 : i < 6 := by simp at h; omega
      obtain ⟨a, ea⟩ : ∃ a, l[i]? = some a := ⟨_, List.getElem?_eq_getElem hlt⟩
      have ho := hok a (List.mem_of_getElem? ea)
      have hit := ho.it
      have hnum := ho.it.num
      unfold reachBytes at hnum
      have hh := c_law4_heavyW a.it a.s ho.it ho.s
      unfold askAv ItemD.cells at hh
      cases hv : heavyW a.it a.s with
      | true =>
        rw [hv] at hh
        simp only [go_sem, ↓reduceIte, Nat.reduceLT, Nat.reduceLeDiff, Nat.reduceAdd, Nat.reduceSub, Nat.reduceMul, Nat.reduceEqDiff, Nat.reduceBEq, Nat.reduceMod, Nat.reduceDiv, Int.reduceToNat, reduceCtorEq, Int.reduceLT, Int.reduceLE, Int.reduceGT, Int.reduceGE, Int.reduceAdd, Int.reduceSub, Int.reduceMul, Int.reduceNeg, Int.reduceEq, Int.reduceNe, Int.reduceBNe, Int.reduceBEq, Int.reduceDiv, List.length_map, List.getElem?_map, ea, Int.toNat_natCast, Ask4.av, askAv, ItemD.cells]
        repeat with_reducible refine And.intro (by first | omega | (simp only [List.length_cons, List.length_append, List.length_nil, List.length_map, List.length_take, List.length_drop, List.length_set]; omega)) ?_
        try simp only [go_sem, ↓reduceIte, Nat.reduceLT, Nat.reduceLeDiff, Nat.reduceAdd, Nat.reduceSub, Nat.reduceMul, Nat.reduceEqDiff, Nat.reduceBEq, Nat.reduceMod, Nat.reduceDiv, Int.reduceToNat, reduceCtorEq, Int.reduceLT, Int.reduceLE, Int.reduceGT, Int.reduceGE, Int.reduceAdd, Int.reduceSub, Int.reduceMul, Int.reduceNeg, Int.reduceEq, Int.reduceNe, Int.reduceBNe, Int.reduceBEq, Int.reduceDiv, ItemD.cells]
        refine ex_call (by exact hh) ?_
        simp only [go_sem, ↓reduceIte, Nat.reduceLT, Nat.reduceLeDiff, Nat.reduceAdd, Nat.reduceSub, Nat.reduceMul, Nat.reduceEqDiff, Nat.reduceBEq, Nat.reduceMod, Nat.reduceDiv, Int.reduceToNat, reduceCtorEq, Int.reduceLT, Int.reduceLE, Int.reduceGT, Int.reduceGE, Int.reduceAdd, Int.reduceSub, Int.reduceMul, Int.reduceNeg, Int.reduceEq, Int.reduceNe, Int.reduceBNe, Int.reduceBEq, Int.reduceDiv]
        refine finOne ?_ (fun _ e => by cases e)
        show resOf _ _ [.tmp 2] = _
        simp only [go_sem, ↓reduceIte, Nat.reduceLT, Nat.reduceLeDiff, Nat.reduceAdd, Nat.reduceSub, Nat.reduceMul, Nat.reduceEqDiff, Nat.reduceBEq, Nat.reduceMod, Nat.reduceDiv, Int.reduceToNat, reduceCtorEq, Int.reduceLT, Int.reduceLE, Int.reduceGT, Int.reduceGE, Int.reduceAdd, Int.reduceSub, Int.reduceMul, Int.reduceNeg, Int.reduceEq, Int.reduceNe, Int.reduceBNe, Int.reduceBEq, Int.reduceDiv]
      | false =>
        rw [hv] at hh
        have hv2 := heavyW_no hv
        have round : next = next := rfl
        simp only [go_sem, ↓reduceIte, Nat.reduceLT, Nat.reduceLeDiff, Nat.reduceAdd, Nat.reduceSub, Nat.reduceMul, Nat.reduceEqDiff, Nat.reduceBEq, Nat.reduceMod, Nat.reduceDiv, Int.reduceToNat, reduceCtorEq, Int.reduceLT, Int.reduceLE, Int.reduceGT, Int.reduceGE, Int.reduceAdd, Int.reduceSub, Int.reduceMul, Int.reduceNeg, Int.reduceEq, Int.reduceNe, Int.reduceBNe, Int.reduceBEq, Int.reduceDiv, List.length_map, List.getElem?_map, ea, Int.toNat_natCast, Ask4.av, askAv, ItemD.cells]
        repeat with_reducible refine And.intro (by first | omega | (simp only [List.length_cons, List.length_append, List.length_nil, List.length_map, List.length_take, List.length_drop, List.length_set]; omega)) ?_
        try simp only [go_sem, ↓reduceIte, Nat.reduceLT, Nat.reduceLeDiff, Nat.reduceAdd, Nat.reduceSub, Nat.reduceMul, Nat.reduceEqDiff, Nat.reduceBEq, Nat.reduceMod, Nat.reduceDiv, Int.reduceToNat, reduceCtorEq, Int.reduceLT, Int.reduceLE, Int.reduceGT, Int.reduceGE, Int.reduceAdd, Int.reduceSub, Int.reduceMul, Int.reduceNeg, Int.reduceEq, Int.reduceNe, Int.reduceBNe, Int.reduceBEq, Int.reduceDiv, ItemD.cells]
        refine ex_call (by exact hh) ?_
        have h1 := c_BytesIW a.it hit
        have h9 := c_item_Take a.s (by omega)
        try simp only [go_sem, ↓reduceIte, Nat.reduceLT, Nat.reduceLeDiff, Nat.reduceAdd, Nat.reduceSub, Nat.reduceMul, Nat.reduceEqDiff, Nat.reduceBEq, Nat.reduceMod, Nat.reduceDiv, Int.reduceToNat, reduceCtorEq, Int.reduceLT, Int.reduceLE, Int.reduceGT, Int.reduceGE, Int.reduceAdd, Int.reduceSub, Int.reduceMul, Int.reduceNeg, Int.reduceEq, Int.reduceNe, Int.reduceBNe, Int.reduceBEq, Int.reduceDiv, List.length_map, List.getElem?_map, ea, Int.toNat_natCast, Ask4.av, askAv, ItemD.cells]
        repeat with_reducible refine And.intro (by first | omega | (simp only [List.length_cons, List.length_append, List.length_nil, List.length_map, List.length_take, List.length_drop, List.length_set]; omega)) ?_
        try simp only [go_sem, ↓reduceIte, Nat.reduceLT, Nat.reduceLeDiff, Nat.reduceAdd, Nat.reduceSub, Nat.reduceMul, Nat.reduceEqDiff, Nat.reduceBEq, Nat.reduceMod, Nat.reduceDiv, Int.reduceToNat, reduceCtorEq, Int.reduceLT, Int.reduceLE, Int.reduceGT, Int.reduceGE, Int.reduceAdd, Int.reduceSub, Int.reduceMul, Int.reduceNeg, Int.reduceEq, Int.reduceNe, Int.reduceBNe, Int.reduceBEq, Int.reduceDiv, ItemD.cells]
        refine ex_call (by exact h1) ?_
        simp only [go_sem, ↓reduceIte, Nat.reduceLT, Nat.reduceLeDiff, Nat.reduceAdd, Nat.reduceSub, Nat.reduceMul, Nat.reduceEqDiff, Nat.reduceBEq, Nat.reduceMod, Nat.reduceDiv, Int.reduceToNat, reduceCtorEq, Int.reduceLT, Int.reduceLE, Int.reduceGT, Int.reduceGE, Int.reduceAdd, Int.reduceSub, Int.reduceMul, Int.reduceNeg, Int.reduceEq, Int.reduceNe, Int.reduceBNe, Int.reduceBEq, Int.reduceDiv]
        refine ex_call (by exact c_law4_num _) ?_
        simp only [go_sem, ↓reduceIte, Nat.reduceLT, Nat.reduceLeDiff, Nat.reduceAdd, Nat.reduceSub, Nat.reduceMul, Nat.reduceEqDiff, Nat.reduceBEq, Nat.reduceMod, Nat.reduceDiv, Int.reduceToNat, reduceCtorEq, Int.reduceLT, Int.reduceLE, Int.reduceGT, Int.reduceGE, Int.reduceAdd, Int.reduceSub, Int.reduceMul, Int.reduceNeg, Int.reduceEq, Int.reduceNe, Int.reduceBNe, Int.reduceBEq, Int.reduceDiv]
        refine ex_cut (fun q : Bool × Nat => match q.1 with
          | false => ⟨[(0, .sl false 4 (l.map Ask4.av)), (3, .int .i64 i), (4, .str (bytesI a.it)), (5, .int .i64 1), (25, .bool (decide (i < l.length) && decide (i < 6))), (32, .bool false), (44, .bool false)], [], []⟩
          | true => ⟨[(0, .sl false 4 (l.map Ask4.av)), (3, .int .i64 i), (4, .str (bytesI a.it)), (9, .int .i64 (q.2 : Nat)), (79, .bool (decide ((q.2 : Int) < ((bytesI a.it).length : Int))))], [], []⟩) (fun _ => True) (fun q _ => ?_) (fun κ hκ => ?_)
        case refine_2 =>
          cases hk : okI 0 a.it with
          | false =>
            simp only [go_sem, ↓reduceIte, Nat.reduceLT, Nat.reduceLeDiff, Nat.reduceAdd, Nat.reduceSub, Nat.reduceMul, Nat.reduceEqDiff, Nat.reduceBEq, Nat.reduceMod, Nat.reduceDiv, Int.reduceToNat, reduceCtorEq, Int.reduceLT, Int.reduceLE, Int.reduceGT, Int.reduceGE, Int.reduceAdd, Int.reduceSub, Int.reduceMul, Int.reduceNeg, Int.reduceEq, Int.reduceNe, Int.reduceBNe, Int.reduceBEq, Int.reduceDiv]
            exact hκ (false, 0) trivial
          | true =>
            have hbi : bytesI a.it = rawOf a.it := by unfold bytesI; rw [if_pos hk]
            have hlen := okI_len hk
            rw [hbi] at hκ ⊢
            have h2 := c_item_Take (rawOf a.it ++ a.s) (by rw [List.length_append]; omega)
            rw [parse_raw a.it 0 hk a.s] at h2
            unfold resP at h2
            have h5 := c_EqI a.it a.it (okI_small hk) (okI_small hk)
            rw [decide_eq_true rfl] at h5
            try simp only [go_sem, ↓reduceIte, Nat.reduceLT, Nat.reduceLeDiff, Nat.reduceAdd, Nat.reduceSub, Nat.reduceMul, Nat.reduceEqDiff, Nat.reduceBEq, Nat.reduceMod, Nat.reduceDiv, Int.reduceToNat, reduceCtorEq, Int.reduceLT, Int.reduceLE, Int.reduceGT, Int.reduceGE, Int.reduceAdd, Int.reduceSub, Int.reduceMul, Int.reduceNeg, Int.reduceEq, Int.reduceNe, Int.reduceBNe, Int.reduceBEq, Int.reduceDiv, List.length_map, List.getElem?_map, ea, Int.toNat_natCast, Ask4.av, askAv, ItemD.cells]
            repeat with_reducible refine And.intro (by first | omega | (simp only [List.length_cons, List.length_append, List.length_nil, List.length_map, List.length_take, List.length_drop, List.length_set]; omega)) ?_
            try simp only [go_sem, ↓reduceIte, Nat.reduceLT, Nat.reduceLeDiff, Nat.reduceAdd, Nat.reduceSub, Nat.reduceMul, Nat.reduceEqDiff, Nat.reduceBEq, Nat.reduceMod, Nat.reduceDiv, Int.reduceToNat, reduceCtorEq, Int.reduceLT, Int.reduceLE, Int.reduceGT, Int.reduceGE, Int.reduceAdd, Int.reduceSub, Int.reduceMul, Int.reduceNeg, Int.reduceEq, Int.reduceNe, Int.reduceBNe, Int.reduceBEq, Int.reduceDiv, ItemD.cells]
            refine ex_call (by exact h2) ?_
            simp only [go_sem, ↓reduceIte, Nat.reduceLT, Nat.reduceLeDiff, Nat.reduceAdd, Nat.reduceSub, Nat.reduceMul, Nat.reduceEqDiff, Nat.reduceBEq, Nat.reduceMod, Nat.reduceDiv, Int.reduceToNat, reduceCtorEq, Int.reduceLT, Int.reduceLE, Int.reduceGT, Int.reduceGE, Int.reduceAdd, Int.reduceSub, Int.reduceMul, Int.reduceNeg, Int.reduceEq, Int.reduceNe, Int.reduceBNe, Int.reduceBEq, Int.reduceDiv]
            refine ex_draw [] [] (.quiet 0 (.one 1 (.quiet 2 (.quiet 3 (.quiet 4 (.quiet 5 (.quiet 6 (.quiet 7 (.quiet 8 (.quiet 9 (.quiet 10 (.quiet 11 (.quiet 12 (.quiet 13 (.quiet 14 (.quiet 15 (.one 16 (.quiet 17 (.quiet 18 (.fin)))))))))))))))))))) (by kernel_rfl) ?_
            simp only [go_sem, ↓reduceIte, Nat.reduceLT, Nat.reduceLeDiff, Nat.reduceAdd, Nat.reduceSub, Nat.reduceMul, Nat.reduceEqDiff, Nat.reduceBEq, Nat.reduceMod, Nat.reduceDiv, Int.reduceToNat, reduceCtorEq, Int.reduceLT, Int.reduceLE, Int.reduceGT, Int.reduceGE, Int.reduceAdd, Int.reduceSub, Int.reduceMul, Int.reduceNeg, Int.reduceEq, Int.reduceNe, Int.reduceBNe, Int.reduceBEq, Int.reduceDiv, Int.cast_ofNat_Int]
            refine ex_call (by exact c_law4_num _) ?_
            simp only [go_sem, ↓reduceIte, Nat.reduceLT, Nat.reduceLeDiff, Nat.reduceAdd, Nat.reduceSub, Nat.reduceMul, Nat.reduceEqDiff, Nat.reduceBEq, Nat.reduceMod, Nat.reduceDiv, Int.reduceToNat, reduceCtorEq, Int.reduceLT, Int.reduceLE, Int.reduceGT, Int.reduceGE, Int.reduceAdd, Int.reduceSub, Int.reduceMul, Int.reduceNeg, Int.reduceEq, Int.reduceNe, Int.reduceBNe, Int.reduceBEq, Int.reduceDiv, bne_self_eq_false]
            try simp only [go_sem, ↓reduceIte, Nat.reduceLT, Nat.reduceLeDiff, Nat.reduceAdd, Nat.reduceSub, Nat.reduceMul, Nat.reduceEqDiff, Nat.reduceBEq, Nat.reduceMod, Nat.reduceDiv, Int.reduceToNat, reduceCtorEq, Int.reduceLT, Int.reduceLE, Int.reduceGT, Int.reduceGE, Int.reduceAdd, Int.reduceSub, Int.reduceMul, Int.reduceNeg, Int.reduceEq, Int.reduceNe, Int.reduceBNe, Int.reduceBEq, Int.reduceDiv, List.length_map, List.getElem?_map, ea, Int.toNat_natCast, Ask4.av, askAv, ItemD.cells]
            repeat with_reducible refine And.intro (by first | omega | (simp only [List.length_cons, List.length_append, List.length_nil, List.length_map, List.length_take, List.length_drop, List.length_set]; omega)) ?_
            try simp only [go_sem, ↓reduceIte, Nat.reduceLT, Nat.reduceLeDiff, Nat.reduceAdd, Nat.reduceSub, Nat.reduceMul, Nat.reduceEqDiff, Nat.reduceBEq, Nat.reduceMod, Nat.reduceDiv, Int.reduceToNat, reduceCtorEq, Int.reduceLT, Int.reduceLE, Int.reduceGT, Int.reduceGE, Int.reduceAdd, Int.reduceSub, Int.reduceMul, Int.reduceNeg, Int.reduceEq, Int.reduceNe, Int.reduceBNe, Int.reduceBEq, Int.reduceDiv, ItemD.cells]
            refine ex_call (by exact h5) ?_
            simp only [go_sem, ↓reduceIte, Nat.reduceLT, Nat.reduceLeDiff, Nat.reduceAdd, Nat.reduceSub, Nat.reduceMul, Nat.reduceEqDiff, Nat.reduceBEq, Nat.reduceMod, Nat.reduceDiv, Int.reduceToNat, reduceCtorEq, Int.reduceLT, Int.reduceLE, Int.reduceGT, Int.reduceGE, Int.reduceAdd, Int.reduceSub, Int.reduceMul, Int.reduceNeg, Int.reduceEq, Int.reduceNe, Int.reduceBNe, Int.reduceBEq, Int.reduceDiv]
            refine ex_iter [0, 3, 4, 9] (fun j : Nat => ⟨[(0, .sl false 4 (l.map Ask4.av)), (3, .int .i64 i), (4, .str (rawOf a.it)), (9, .int .i64 j)], [], []⟩) (fun j => j ≤ 131072) (fun j => (rawOf a.it).length - j) 0 ?_ ?_ ?_
            · simp only [ASt.keep, consIf, keepL, keepV, AV.isBot, List.contains_cons, List.contains_nil, Nat.reduceBEq, Bool.or_false, Bool.false_or, Bool.or_true, Bool.true_or, beq_self_eq_true, Bool.false_eq_true, ↓reduceIte, if_false, if_true]
              rfl
            · exact Nat.zero_le _
            · intro r j hj next2
              simp only [go_sem, ↓reduceIte, Nat.reduceLT, Nat.reduceLeDiff, Nat.reduceAdd, Nat.reduceSub, Nat.reduceMul, Nat.reduceEqDiff, Nat.reduceBEq, Nat.reduceMod, Nat.reduceDiv, Int.reduceToNat, reduceCtorEq, Int.reduceLT, Int.reduceLE, Int.reduceGT, Int.reduceGE, Int.reduceAdd, Int.reduceSub, Int.reduceMul, Int.reduceNeg, Int.reduceEq, Int.reduceNe, Int.reduceBNe, Int.reduceBEq, Int.reduceDiv]
              refine ex_br (fun hc => ?_) (fun hc => ?_)
              · have hjl : j < (rawOf a.it).length := by simpa using hc
                have h3 := c_item_Take ((rawOf a.it).take j) (by rw [List.length_take]; omega)
                rw [parse_cut a.it hk hjl] at h3
                unfold resP at h3
                have wq : ((rawOf a.it).length : Int).tdiv 40 = (((rawOf a.it).length / 40 : Nat) : Int) := rfl
                have wq2 := wi64n ((rawOf a.it).length / 40) (by omega)
                have wj : IntKind.i64.wrap ((j : Int) + 1) = ((j + 1 : Nat) : Int) := wi64_nat j (by omega)
                have ws : IntKind.i64.wrap (((j + 1 : Nat) : Int) + (((rawOf a.it).length / 40 : Nat) : Int)) = ((j + 1 + (rawOf a.it).length / 40 : Nat) : Int) := by rw [wi64 (by omega) (by omega)]; omega
                simp only [go_sem, ↓reduceIte, Nat.reduceLT, Nat.reduceLeDiff, Nat.reduceAdd, Nat.reduceSub, Nat.reduceMul, Nat.reduceEqDiff, Nat.reduceBEq, Nat.reduceMod, Nat.reduceDiv, Int.reduceToNat, reduceCtorEq, Int.reduceLT, Int.reduceLE, Int.reduceGT, Int.reduceGE, Int.reduceAdd, Int.reduceSub, Int.reduceMul, Int.reduceNeg, Int.reduceEq, Int.reduceNe, Int.reduceBNe, Int.reduceBEq, Int.reduceDiv, Int.toNat_natCast, Nat.sub_zero]
                refine ⟨by omega, ?_⟩
                refine ex_call (by exact h3) ?_
                simp only [go_sem, ↓reduceIte, Nat.reduceLT, Nat.reduceLeDiff, Nat.reduceAdd, Nat.reduceSub, Nat.reduceMul, Nat.reduceEqDiff, Nat.reduceBEq, Nat.reduceMod, Nat.reduceDiv, Int.reduceToNat, reduceCtorEq, Int.reduceLT, Int.reduceLE, Int.reduceGT, Int.reduceGE, Int.reduceAdd, Int.reduceSub, Int.reduceMul, Int.reduceNeg, Int.reduceEq, Int.reduceNe, Int.reduceBNe, Int.reduceBEq, Int.reduceDiv, Int.cast_ofNat_Int]
                refine ex_call (by exact c_law4_num _) ?_
                simp only [go_sem, ↓reduceIte, Nat.reduceLT, Nat.reduceLeDiff, Nat.reduceAdd, Nat.reduceSub, Nat.reduceMul, Nat.reduceEqDiff, Nat.reduceBEq, Nat.reduceMod, Nat.reduceDiv, Int.reduceToNat, reduceCtorEq, Int.reduceLT, Int.reduceLE, Int.reduceGT, Int.reduceGE, Int.reduceAdd, Int.reduceSub, Int.reduceMul, Int.reduceNeg, Int.reduceEq, Int.reduceNe, Int.reduceBNe, Int.reduceBEq, Int.reduceDiv, wq, wq2, wj, ws]
                refine next2 (j + 1 + (rawOf a.it).length / 40) _ (by omega) (by omega) ?_
                simp only [ASt.keep, consIf, keepL, keepV, AV.isBot, List.contains_cons, List.contains_nil, Nat.reduceBEq, Bool.or_false, Bool.false_or, Bool.or_true, Bool.true_or, beq_self_eq_true, Bool.false_eq_true, ↓reduceIte, if_false, if_true]
              · simp only [go_sem, ↓reduceIte, Nat.reduceLT, Nat.reduceLeDiff, Nat.reduceAdd, Nat.reduceSub, Nat.reduceMul, Nat.reduceEqDiff, Nat.reduceBEq, Nat.reduceMod, Nat.reduceDiv, Int.reduceToNat, reduceCtorEq, Int.reduceLT, Int.reduceLE, Int.reduceGT, Int.reduceGE, Int.reduceAdd, Int.reduceSub, Int.reduceMul, Int.reduceNeg, Int.reduceEq, Int.reduceNe, Int.reduceBNe, Int.reduceBEq, Int.reduceDiv]
                have := hκ (true, j) trivial
                exact this
        obtain ⟨o, j⟩ := q
        cases o
        all_goals
          cases hp : parse 0 a.s with
          | error e =>
            have e0 : ((e : Int) == 0) = false := by rcases parse_err hp with rfl | rfl <;> rfl
            rw [hp] at h9
            unfold resP at h9
            try simp only [go_sem, ↓reduceIte, Nat.reduceLT, Nat.reduceLeDiff, Nat.reduceAdd, Nat.reduceSub, Nat.reduceMul, Nat.reduceEqDiff, Nat.reduceBEq, Nat.reduceMod, Nat.reduceDiv, Int.reduceToNat, reduceCtorEq, Int.reduceLT, Int.reduceLE, Int.reduceGT, Int.reduceGE, Int.reduceAdd, Int.reduceSub, Int.reduceMul, Int.reduceNeg, Int.reduceEq, Int.reduceNe, Int.reduceBNe, Int.reduceBEq, Int.reduceDiv, List.length_map, List.getElem?_map, ea, Int.toNat_natCast, Ask4.av, askAv, ItemD.cells]
            repeat with_reducible refine And.intro (by first | omega | (simp only [List.length_cons, List.length_append, List.length_nil, List.length_map, List.length_take, List.length_drop, List.length_set]; omega)) ?_
            try simp only [go_sem, ↓reduceIte, Nat.reduceLT, Nat.reduceLeDiff, Nat.reduceAdd, Nat.reduceSub, Nat.reduceMul, Nat.reduceEqDiff, Nat.reduceBEq, Nat.reduceMod, Nat.reduceDiv, Int.reduceToNat, reduceCtorEq, Int.reduceLT, Int.reduceLE, Int.reduceGT, Int.reduceGE, Int.reduceAdd, Int.reduceSub, Int.reduceMul, Int.reduceNeg, Int.reduceEq, Int.reduceNe, Int.reduceBNe, Int.reduceBEq, Int.reduceDiv, ItemD.cells]
            refine ex_call (by exact h9) ?_
            simp only [go_sem, ↓reduceIte, Nat.reduceLT, Nat.reduceLeDiff, Nat.reduceAdd, Nat.reduceSub, Nat.reduceMul, Nat.reduceEqDiff, Nat.reduceBEq, Nat.reduceMod, Nat.reduceDiv, Int.reduceToNat, reduceCtorEq, Int.reduceLT, Int.reduceLE, Int.reduceGT, Int.reduceGE, Int.reduceAdd, Int.reduceSub, Int.reduceMul, Int.reduceNeg, Int.reduceEq, Int.reduceNe, Int.reduceBNe, Int.reduceBEq, Int.reduceDiv]
            refine ex_call (by exact c_law4_num _) ?_
            simp only [go_sem, ↓reduceIte, Nat.reduceLT, Nat.reduceLeDiff, Nat.reduceAdd, Nat.reduceSub, Nat.reduceMul, Nat.reduceEqDiff, Nat.reduceBEq, Nat.reduceMod, Nat.reduceDiv, Int.reduceToNat, reduceCtorEq, Int.reduceLT, Int.reduceLE, Int.reduceGT, Int.reduceGE, Int.reduceAdd, Int.reduceSub, Int.reduceMul, Int.reduceNeg, Int.reduceEq, Int.reduceNe, Int.reduceBNe, Int.reduceBEq, Int.reduceDiv, e0]
            refine next (i + 1) _ (by omega) (by omega) ?_
            rw [← wi64_nat i (by omega)]
            simp only [ASt.keep, consIf, keepL, keepV, AV.isBot, List.contains_cons, List.contains_nil, Nat.reduceBEq, Bool.or_false, Bool.false_or, Bool.or_true, Bool.true_or, beq_self_eq_true, Bool.false_eq_true, ↓reduceIte, if_false, if_true]
          | ok r =>
            obtain ⟨it, k⟩ := r
            have hio := parse_itok (by omega) hp
            have hpo := parse_ok hp
            have hle := hpo.le
            have h8 := c_BytesI it hio
            have hbi2 : bytesI it = a.s.take k := by unfold bytesI; rw [if_pos hpo.may]; exact hpo.raw
            rw [hbi2, hpo.may] at h8
            rw [hp] at h9
            unfold resP at h9
            have ek : decide ((k : Int) > (a.s.length : Int)) = false := decide_eq_false (by omega)
            try simp only [go_sem, ↓reduceIte, Nat.reduceLT, Nat.reduceLeDiff, Nat.reduceAdd, Nat.reduceSub, Nat.reduceMul, Nat.reduceEqDiff, Nat.reduceBEq, Nat.reduceMod, Nat.reduceDiv, Int.reduceToNat, reduceCtorEq, Int.reduceLT, Int.reduceLE, Int.reduceGT, Int.reduceGE, Int.reduceAdd, Int.reduceSub, Int.reduceMul, Int.reduceNeg, Int.reduceEq, Int.reduceNe, Int.reduceBNe, Int.reduceBEq, Int.reduceDiv, List.length_map, List.getElem?_map, ea, Int.toNat_natCast, Ask4.av, askAv, ItemD.cells]
            repeat with_reducible refine And.intro (by first | omega | (simp only [List.length_cons, List.length_append, List.length_nil, List.length_map, List.length_take, List.length_drop, List.length_set]; omega)) ?_
            try simp only [go_sem, ↓reduceIte, Nat.reduceLT, Nat.reduceLeDiff, Nat.reduceAdd, Nat.reduceSub, Nat.reduceMul, Nat.reduceEqDiff, Nat.reduceBEq, Nat.reduceMod, Nat.reduceDiv, Int.reduceToNat, reduceCtorEq, Int.reduceLT, Int.reduceLE, Int.reduceGT, Int.reduceGE, Int.reduceAdd, Int.reduceSub, Int.reduceMul, Int.reduceNeg, Int.reduceEq, Int.reduceNe, Int.reduceBNe, Int.reduceBEq, Int.reduceDiv, ItemD.cells]
            refine ex_call (by exact h9) ?_
            simp only [go_sem, ↓reduceIte, Nat.reduceLT, Nat.reduceLeDiff, Nat.reduceAdd, Nat.reduceSub, Nat.reduceMul, Nat.reduceEqDiff, Nat.reduceBEq, Nat.reduceMod, Nat.reduceDiv, Int.reduceToNat, reduceCtorEq, Int.reduceLT, Int.reduceLE, Int.reduceGT, Int.reduceGE, Int.reduceAdd, Int.reduceSub, Int.reduceMul, Int.reduceNeg, Int.reduceEq, Int.reduceNe, Int.reduceBNe, Int.reduceBEq, Int.reduceDiv]
            refine ex_call (by exact c_law4_num _) ?_
            simp only [go_sem, ↓reduceIte, Nat.reduceLT, Nat.reduceLeDiff, Nat.reduceAdd, Nat.reduceSub, Nat.reduceMul, Nat.reduceEqDiff, Nat.reduceBEq, Nat.reduceMod, Nat.reduceDiv, Int.reduceToNat, reduceCtorEq, Int.reduceLT, Int.reduceLE, Int.reduceGT, Int.reduceGE, Int.reduceAdd, Int.reduceSub, Int.reduceMul, Int.reduceNeg, Int.reduceEq, Int.reduceNe, Int.reduceBNe, Int.reduceBEq, Int.reduceDiv]
            refine ex_call (by exact h8) ?_
            simp only [go_sem, ↓reduceIte, Nat.reduceLT, Nat.reduceLeDiff, Nat.reduceAdd, Nat.reduceSub, Nat.reduceMul, Nat.reduceEqDiff, Nat.reduceBEq, Nat.reduceMod, Nat.reduceDiv, Int.reduceToNat, reduceCtorEq, Int.reduceLT, Int.reduceLE, Int.reduceGT, Int.reduceGE, Int.reduceAdd, Int.reduceSub, Int.reduceMul, Int.reduceNeg, Int.reduceEq, Int.reduceNe, Int.reduceBNe, Int.reduceBEq, Int.reduceDiv]
            refine ex_call (by exact c_law4_num _) ?_
            try simp only [go_sem, ↓reduceIte, Nat.reduceLT, Nat.reduceLeDiff, Nat.reduceAdd, Nat.reduceSub, Nat.reduceMul, Nat.reduceEqDiff, Nat.reduceBEq, Nat.reduceMod, Nat.reduceDiv, Int.reduceToNat, reduceCtorEq, Int.reduceLT, Int.reduceLE, Int.reduceGT, Int.reduceGE, Int.reduceAdd, Int.reduceSub, Int.reduceMul, Int.reduceNeg, Int.reduceEq, Int.reduceNe, Int.reduceBNe, Int.reduceBEq, Int.reduceDiv, List.length_map, List.getElem?_map, ea, Int.toNat_natCast, Ask4.av, askAv, ItemD.cells]
            repeat with_reducible refine And.intro (by first | omega | (simp only [List.length_cons, List.length_append, List.length_nil, List.length_map, List.length_take, List.length_drop, List.length_set]; omega)) ?_
            try simp only [go_sem, ↓reduceIte, Nat.reduceLT, Nat.reduceLeDiff, Nat.reduceAdd, Nat.reduceSub, Nat.reduceMul, Nat.reduceEqDiff, Nat.reduceBEq, Nat.reduceMod, Nat.reduceDiv, Int.reduceToNat, reduceCtorEq, Int.reduceLT, Int.reduceLE, Int.reduceGT, Int.reduceGE, Int.reduceAdd, Int.reduceSub, Int.reduceMul, Int.reduceNeg, Int.reduceEq, Int.reduceNe, Int.reduceBNe, Int.reduceBEq, Int.reduceDiv, ItemD.cells]
            simp only [go_sem, ↓reduceIte, Nat.reduceLT, Nat.reduceLeDiff, Nat.reduceAdd, Nat.reduceSub, Nat.reduceMul, Nat.reduceEqDiff, Nat.reduceBEq, Nat.reduceMod, Nat.reduceDiv, Int.reduceToNat, reduceCtorEq, Int.reduceLT, Int.reduceLE, Int.reduceGT, Int.reduceGE, Int.reduceAdd, Int.reduceSub, Int.reduceMul, Int.reduceNeg, Int.reduceEq, Int.reduceNe, Int.reduceBNe, Int.reduceBEq, Int.reduceDiv, ek]
            try simp only [go_sem, ↓reduceIte, Nat.reduceLT, Nat.reduceLeDiff, Nat.reduceAdd, Nat.reduceSub, Nat.reduceMul, Nat.reduceEqDiff, Nat.reduceBEq, Nat.reduceMod, Nat.reduceDiv, Int.reduceToNat, reduceCtorEq, Int.reduceLT, Int.reduceLE, Int.reduceGT, Int.reduceGE, Int.reduceAdd, Int.reduceSub, Int.reduceMul, Int.reduceNeg, Int.reduceEq, Int.reduceNe, Int.reduceBNe, Int.reduceBEq, Int.reduceDiv, List.length_map, List.getElem?_map, ea, Int.toNat_natCast, Ask4.av, askAv, ItemD.cells]
            repeat with_reducible refine And.intro (by first | omega | (simp only [List.length_cons, List.length_append, List.length_nil, List.length_map, List.length_take, List.length_drop, List.length_set]; omega)) ?_
            try simp only [go_sem, ↓reduceIte, Nat.reduceLT, Nat.reduceLeDiff, Nat.reduceAdd, Nat.reduceSub, Nat.reduceMul, Nat.reduceEqDiff, Nat.reduceBEq, Nat.reduceMod, Nat.reduceDiv, Int.reduceToNat, reduceCtorEq, Int.reduceLT, Int.reduceLE, Int.reduceGT, Int.reduceGE, Int.reduceAdd, Int.reduceSub, Int.reduceMul, Int.reduceNeg, Int.reduceEq, Int.reduceNe, Int.reduceBNe, Int.reduceBEq, Int.reduceDiv, ItemD.cells]
            simp only [go_sem, ↓reduceIte, Nat.reduceLT, Nat.reduceLeDiff, Nat.reduceAdd, Nat.reduceSub, Nat.reduceMul, Nat.reduceEqDiff, Nat.reduceBEq, Nat.reduceMod, Nat.reduceDiv, Int.reduceToNat, reduceCtorEq, Int.reduceLT, Int.reduceLE, Int.reduceGT, Int.reduceGE, Int.reduceAdd, Int.reduceSub, Int.reduceMul, Int.reduceNeg, Int.reduceEq, Int.reduceNe, Int.reduceBNe, Int.reduceBEq, Int.reduceDiv, Int.toNat_natCast, Nat.sub_zero]
            refine next (i + 1) _ (by omega) (by omega) ?_
            rw [← wi64_nat i (by omega)]
            simp only [ASt.keep, consIf, keepL, keepV, AV.isBot, List.contains_cons, List.contains_nil, Nat.reduceBEq, Bool.or_false, Bool.false_or, Bool.or_true, Bool.true_or, beq_self_eq_true, Bool.false_eq_true, ↓reduceIte, if_false, if_true]
    · simp only [go_sem, ↓reduceIte, Nat.reduceLT, Nat.reduceLeDiff, Nat.reduceAdd, Nat.reduceSub, Nat.reduceMul, Nat.reduceEqDiff, Nat.reduceBEq, Nat.reduceMod, Nat.reduceDiv, Int.reduceToNat, reduceCtorEq, Int.reduceLT, Int.reduceLE, Int.reduceGT, Int.reduceGE, Int.reduceAdd, Int.reduceSub, Int.reduceMul, Int.reduceNeg, Int.reduceEq, Int.reduceNe, Int.reduceBNe, Int.reduceBEq, Int.reduceDiv]
      refine ex_call (by exact c_law4_wakes) ?_
      simp only [go_sem, ↓reduceIte, Nat.reduceLT, Nat.reduceLeDiff, Nat.reduceAdd, Nat.reduceSub, Nat.reduceMul, Nat.reduceEqDiff, Nat.reduceBEq, Nat.reduceMod, Nat.reduceDiv, Int.reduceToNat, reduceCtorEq, Int.reduceLT, Int.reduceLE, Int.reduceGT, Int.reduceGE, Int.reduceAdd, Int.reduceSub, Int.reduceMul, Int.reduceNeg, Int.reduceEq, Int.reduceNe, Int.reduceBNe, Int.reduceBEq, Int.reduceDiv]
      refine finOne ?_ (fun _ e => by cases e)
      show resOf _ _ [.tmp 2] = _
      simp only [go_sem, ↓reduceIte, Nat.reduceLT, Nat.reduceLeDiff, Nat.reduceAdd, Nat.reduceSub, Nat.reduceMul, Nat.reduceEqDiff, Nat.reduceBEq, Nat.reduceMod, Nat.reduceDiv, Int.reduceToNat, reduceCtorEq, Int.reduceLT, Int.reduceLE, Int.reduceGT, Int.reduceGE, Int.reduceAdd, Int.reduceSub, Int.reduceMul, Int.reduceNeg, Int.reduceEq, Int.reduceNe, Int.reduceBNe, Int.reduceBEq, Int.reduceDiv]
theorem law_ItemBack (x : AV) (h : Ty ti 22 x) : Contract Try.prog 3 [x] (.bool true) := by
  obtain ⟨l, rfl, hl, hok⟩ := ty_asks4W h
  exact c_ItemBack l hl hok
end Go.Proofs.Ytmngjlgeojbghaa.VA
end
section

end
