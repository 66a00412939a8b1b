/- The abstract machine: values of Go as pure trees, states, and the weakest precondition of code over them. Nothing of the program is named here. -/
import Derived.WalkKit
import Derived.OrdersHeld
import Derived.RangeFuncRecord
namespace Go.Proofs.Ytjfnmlheehbojaa.VA
set_option linter.unusedVariables false

/-- Where an owned slice may stand: a temporary, a cell of a variable in memory, a part of a tuple; 'box': the variable itself. -/
inductive Loc where
  | tmp (t : Nat)
  | cell (k j : Nat)
  | comp (t j : Nat)
  | box (k : Nat)
  deriving DecidableEq

/-- Cells that never change any more. -/
abbrev Imm := Nat → Nat → Option Value

/-- Values. 'sl': a slice whose cells never change any more (true: its block is of the call's own making). 'own': a slice that one place alone holds. 'ref': what an owning place holds, seen from elsewhere. 'var': the address of a cell of a variable. 'elt': the address of a cell of a slice's element. -/
inductive AV where
  | bot
  | undef
  | bool (b : Bool)
  | int (k : IntKind) (n : Int)
  | str (s : List UInt8)
  | fn (f : FuncId)
  | nilf
  | agg (cs : List AV)
  | tup (vs : List AV)
  | sl (fr : Bool) (sz : Nat) (es : List AV)
  | own (sh : Bool) (sz : Nat) (es : List AV)
  | ref (l : Loc)
  | var (k off : Nat)
  | elt (x : AV) (i off : Nat)
  | ext (p : Imm → Value → Prop)

/-- What is known of a type. -/
inductive TK where
  | int (k : IntKind)
  | bool
  | str
  | slice (e : TypeId) (esz ebytes : Nat)
  | arr (n : Nat) (e : TypeId) (esz : Nat)
  | struct (fs : List (Nat × Nat × TypeId))
  | func
  | other
structure TI where
  size : Nat
  zero : List AV
  kind : TK
def TK.isAgg : TK → Bool
  | .arr .. | .struct _ => true
  | _ => false
def TK.known : TK → Bool
  | .other => false
  | _ => true

def look {α : Type} : List (Nat × α) → Nat → Option α
  | [], _ => none
  | (j, x) :: r, k => if k = j then some x else look r k
def ins {α : Type} (k : Nat) (x : α) : List (Nat × α) → List (Nat × α)
  | [] => [(k, x)]
  | (j, y) :: r => if k < j then (k, x) :: (j, y) :: r else if k = j then (k, x) :: r else (j, y) :: ins k x r
/-- What meets p is forgotten. -/
def strike (p : AV → Bool) : List (Nat × AV) → List (Nat × AV)
  | [] => []
  | (j, y) :: r => (j, if p y = true then .bot else y) :: strike p r
def AV.isBot : AV → Bool
  | .bot => true
  | _ => false
/-- Only these temporaries stay. -/
def consIf {α : Type} (b : Bool) (x : α) (l : List α) : List α :=
  match b with
  | true => x :: l
  | false => l
def keepL : List Nat → List (Nat × AV) → List (Nat × AV)
  | _, [] => []
  | ks, (j, y) :: r => consIf (ks.contains j) (j, y) (keepL ks r)

structure ASt where
  tmps : List (Nat × AV)
  vars : List (Nat × List AV)

def AV.compAt (j : Nat) : Option AV → Option AV
  | some (.tup vs) => vs[j]?
  | _ => none
def cellAt (j : Nat) : Option (List AV) → Option AV
  | some cs => cs[j]?
  | none => none
def ASt.at (σ : ASt) : Loc → Option AV
  | .tmp t => look σ.tmps t
  | .cell k j => cellAt j (look σ.vars k)
  | .comp t j => AV.compAt j (look σ.tmps t)
  | .box _ => none

/-- Does a value lean on the place l? -/
def AV.leans (l : Loc) : AV → Bool
  | .ref l' => decide (l' = l)
  | .elt (.ref l') _ _ => decide (l' = l)
  | _ => false
/-- Does a value lean on the variable k? -/
def AV.leansVar (k : Nat) : AV → Bool
  | .var k' _ => Nat.beq k' k
  | .ref (.cell k' _) => Nat.beq k' k
  | .elt (.ref (.cell k' _)) _ _ => Nat.beq k' k
  | _ => false

/-- The cells of a value. -/
def AV.flat : AV → List AV
  | .agg cs => cs
  | v => [v]
/-- An owned slice as one that never changes any more; what owned it bears the mark. -/
def AV.frz : AV → AV
  | .own _ sz es => .sl true sz es
  | v => v
def AV.mark : AV → AV
  | .own _ sz es => .own true sz es
  | v => v

/-- A constant, at a type. -/
def AV.nilOf : TK → AV
  | .slice _ esz _ => .own false esz []
  | _ => .bot
def nilP : Imm → Value → Prop := fun _ v => v = .slice none 0 0
def AV.constC : Value → Option AV
  | .bool b => some (.bool b)
  | .int k n => some (.int k n)
  | .string s => some (.str s.data.toList)
  | .nilFunc => some .nilf
  | .slice none 0 0 => some (.ext nilP)
  | _ => none
def AV.constG : Option AV → Option (List AV) → Option (List AV)
  | some x, some xs => some (x :: xs)
  | _, _ => none
def AV.constCs : List Value → Option (List AV)
  | [] => some []
  | v :: vs => AV.constG (AV.constC v) (AV.constCs vs)
def AV.constA : Option (List AV) → AV
  | some cs => .agg cs
  | none => .bot
def AV.const (t : TI) : Value → AV
  | .bool b => .bool b
  | .int k n => .int k n
  | .string s => .str s.data.toList
  | .nilFunc => .nilf
  | .slice none 0 0 => AV.nilOf t.kind
  | .agg vs => AV.constA (AV.constCs vs.toList)
  | _ => .bot

/-- The temporary t holds v (no owned slice). -/
def ASt.put (σ : ASt) (t : Nat) (v : AV) : ASt := { σ with tmps := ins t v σ.tmps }
/-- The temporary t owns v. -/
def ASt.putOwn (σ : ASt) (t : Nat) (v : AV) : ASt := { σ with tmps := ins t v (strike (AV.leans (.tmp t)) σ.tmps) }
/-- A cell of a variable holds v. -/
def ASt.setCellO (σ : ASt) (k j : Nat) (v : AV) : Option (List AV) → ASt
  | some cs => { σ with vars := ins k (cs.set j v) σ.vars }
  | none => σ
def ASt.setCell (σ : ASt) (k j : Nat) (v : AV) : ASt := σ.setCellO k j v (look σ.vars k)
def ASt.dropComp (σ : ASt) (t j : Nat) : Option AV → ASt
  | some (.tup vs) => { σ with tmps := ins t (.tup (vs.set j .bot)) σ.tmps }
  | _ => σ
/-- What stood at a place stands there no more. -/
def ASt.drop (σ : ASt) : Loc → ASt
  | .tmp t => σ.put t .bot
  | .cell k j => σ.setCell k j .bot
  | .comp t j => σ.dropComp t j (look σ.tmps t)
  | .box _ => σ
/-- A place is given another owned slice, or the same one with the mark. -/
def ASt.turn (σ : ASt) (l : Loc) (v : AV) : ASt :=
  match l with
  | .tmp t => σ.put t v
  | .cell k j => σ.setCell k j v
  | _ => σ

structure Cfg where
  P : Program
  ti : TypeId → TI
  n : Nat
  live : List Nat
  ownp : FuncId → List Nat
  fix : List Nat := []
  inr : Bool := false
/-- May a temporary be written? -/
def Cfg.may (C : Cfg) (t : Nat) : Bool := decide (t < C.n) && !C.fix.contains t

/-- An operand: an owned slice is seen from elsewhere. -/
def AV.seen (i : Nat) : Option AV → AV
  | some (.own _ _ _) => .ref (.tmp i)
  | some (.tup _) => .bot
  | some v => v
  | none => .bot
def ASt.rd (C : Cfg) (σ : ASt) (t : TypeId) : Operand → AV
  | .tmp i => AV.seen i (look σ.tmps i)
  | .const v => AV.const (C.ti t) v
  | .func f => .fn f
  | .global _ => .bot

/-- The elements of a slice. -/
def AV.elemsOf : AV → Option (Nat × List AV)
  | .sl _ sz es => some (sz, es)
  | .own _ sz es => some (sz, es)
  | _ => none
def AV.elemsO : Option AV → Option (Nat × List AV)
  | some (.own _ sz es) => some (sz, es)
  | _ => none
def ASt.cont (σ : ASt) : AV → Option (Nat × List AV)
  | .ref l => AV.elemsO (σ.at l)
  | v => v.elemsOf

def AV.isImm : AV → Bool
  | .bot | .undef | .tup _ | .own .. | .ref _ | .var .. | .elt .. => false
  | _ => true
/-- A value as an immutable one. -/
def Loc.plain : Loc → Bool
  | .tmp _ | .cell _ _ => true
  | _ => false
def ASt.immRef (σ : ASt) (l : Loc) : Option AV → Option (AV × ASt)
  | some (.own _ sz es) => if l.plain = true then some (.sl true sz es, σ.turn l (.own true sz es)) else none
  | _ => none
def ASt.imm (σ : ASt) : AV → Option (AV × ASt)
  | .own _ sz [] => some (.sl true sz [], σ)
  | .ref l => σ.immRef l (σ.at l)
  | v => if v.isImm = true then some (v, σ) else none

/-- The cells of a variable are marked: all that is owned there is shared. -/
def markFrom (cs : List AV) (off n : Nat) : List AV := cs.take off ++ ((cs.drop off).take n).map AV.mark ++ cs.drop (off + n)
def putAt (cs : List AV) (off : Nat) (new : List AV) : List AV := cs.take off ++ new ++ cs.drop (off + new.length)

/-- What an operation comes to. -/
inductive R where
  | ok (σ : ASt)
  | fail
  | need (p : Prop) (r : R)
  | split (b : Bool) (r s : R)
  | both (p : Prop) (r s : R)
  | call (f : FuncId) (as : List AV) (d : Option Nat) (σ : ASt)

def R.chk (b : Bool) (r : R) : R := if b = true then r else .fail

/-- The result of an operation goes to its temporary. -/
def ASt.wrTo (σ : ASt) (t : Nat) : AV → R
  | .own sh sz es => .ok (σ.putOwn t (.own sh sz es))
  | .tup _ => .fail
  | v => .ok (σ.put t v)
def ASt.wr (C : Cfg) (σ : ASt) (d : Option Nat) (v : AV) : R :=
  match d with
  | none => .ok σ
  | some t => .chk (C.may t && (look σ.vars t).isNone) (σ.wrTo t v)

/-- Whole numbers. -/
def binInt (op : BinOp) (k : IntKind) (x y : Int) : Option AV :=
  match op with
  | .add => some (.int k (k.wrap (x + y)))
  | .sub => some (.int k (k.wrap (x - y)))
  | .mul => some (.int k (k.wrap (x * y)))
  | .and => some (.int k (k.wrap (BitVec.ofInt k.bits x &&& BitVec.ofInt k.bits y).toNat))
  | .or => some (.int k (k.wrap (BitVec.ofInt k.bits x ||| BitVec.ofInt k.bits y).toNat))
  | .xor => some (.int k (k.wrap (BitVec.ofInt k.bits x ^^^ BitVec.ofInt k.bits y).toNat))
  | .eql => some (.bool (x == y))
  | .neq => some (.bool (x != y))
  | .lss => some (.bool (decide (x < y)))
  | .leq => some (.bool (decide (x ≤ y)))
  | .gtr => some (.bool (decide (x > y)))
  | .geq => some (.bool (decide (x ≥ y)))
  | _ => none
def AV.eqInts : List AV → List AV → Option Bool
  | [.int j a], [.int k b] => if j = k then some (a == b) else none
  | .int j a :: xs, .int k b :: ys => if j = k then (AV.eqInts xs ys).map fun r => (a == b) && r else none
  | _, _ => none

def ASt.wrO (C : Cfg) (σ : ASt) (d : Option Nat) : Option AV → R
  | some v => σ.wr C d v
  | none => .fail

/-- An operation on two values. -/
def binAgg (C : Cfg) (σ : ASt) (d : Option Nat) (op : BinOp) : Option Bool → R
  | some r => match op with
    | .eql => σ.wr C d (.bool r)
    | .neq => σ.wr C d (.bool !r)
    | _ => .fail
  | none => .fail
def isBoolK : TK → Bool
  | .bool => true
  | _ => false
def isIntK : TK → Bool
  | .int _ => true
  | _ => false
def isSliceK : TK → Bool
  | .slice _ _ _ => true
  | _ => false
def isFuncK : TK → Bool
  | .func => true
  | _ => false
def isInts (C : Cfg) (n : Nat) : TK → Bool
  | .arr m e 1 => decide (m = n) && isIntK (C.ti e).kind
  | _ => false
def binR (C : Cfg) (σ : ASt) (d : Option Nat) (T : TypeId) : BinOp → AV → AV → R
  | .shl, .int k a, .int _ b => .need (0 ≤ b) (σ.wr C d (.int k (k.wrap (a * 2 ^ (min b.toNat k.bits)))))
  | .shr, .int k a, .int _ b => .need (0 ≤ b) (σ.wr C d (.int k (a.fdiv (2 ^ (min b.toNat k.bits)))))
  | .quo, .int k a, .int k' b => .chk (decide (k = k')) (.need (b ≠ 0) (σ.wr C d (.int k (k.wrap (a.tdiv b)))))
  | .rem, .int k a, .int k' b => .chk (decide (k = k')) (.need (b ≠ 0) (σ.wr C d (.int k (a.tmod b))))
  | op, .int k a, .int k' b => .chk (decide (k = k')) (σ.wrO C d (binInt op k a b))
  | .add, .str a, .str b => .need (a.length + b.length ≤ 9223372036854775807) (σ.wr C d (.str (a ++ b)))
  | .eql, .str a, .str b => σ.wr C d (.bool (a == b))
  | .neq, .str a, .str b => σ.wr C d (.bool !(a == b))
  | .lss, .str a, .str b => σ.wr C d (.bool (Op.bytesLess a b))
  | .leq, .str a, .str b => σ.wr C d (.bool (Op.bytesLess a b || a == b))
  | .gtr, .str a, .str b => σ.wr C d (.bool !(Op.bytesLess a b || a == b))
  | .geq, .str a, .str b => σ.wr C d (.bool !(Op.bytesLess a b))
  | .eql, .bool a, .bool b => .chk (isBoolK (C.ti T).kind) (σ.wr C d (.bool (a == b)))
  | .neq, .bool a, .bool b => .chk (isBoolK (C.ti T).kind) (σ.wr C d (.bool !(a == b)))
  | .eql, .sl _ _ es, .own _ _ [] => .chk (isSliceK (C.ti T).kind) (.both (es = []) (σ.wr C d (.bool true)) (σ.wr C d (.bool false)))
  | .eql, .ext p, .nilf => .chk (isFuncK (C.ti T).kind) (.need (∀ J v, p J v → ∃ f cs ls, v = .func f cs ls) (σ.wr C d (.bool false)))
  | op, .agg xs, .agg ys => .chk (isInts C xs.length (C.ti T).kind) (binAgg C σ d op (AV.eqInts xs ys))
  | _, _, _ => .fail

def unVal (op : UnOp) (x : AV) : Option AV :=
  match op, x with
  | .not, .bool b => some (.bool !b)
  | .neg, .int k n => some (.int k (k.wrap (0 - n)))
  | .xor, .int k n => some (.int k (k.wrap (BitVec.ofInt k.bits (if k.signed then -1 else k.max) ^^^ BitVec.ofInt k.bits n).toNat))
  | _, _ => none

def u8 (b : UInt8) : AV := .int .u8 (b.toNat : Int)

/-- What a value is in memory, where the cells of I never change; M: which blocks are of the call's own making. -/
inductive AR (M : Nat → Prop) (I : Imm) : AV → Value → Prop
  | bool (b : Bool) : AR M I (.bool b) (.bool b)
  | int (k : IntKind) (n : Int) : AR M I (.int k n) (.int k n)
  | str (s : List UInt8) : AR M I (.str s) (.string ⟨s.toArray⟩)
  | fn (f : FuncId) : AR M I (.fn f) (.func (.func f) #[] #[])
  | nilf : AR M I .nilf .nilFunc
  | agg (cs : List AV) (vs : Array Value) (hl : cs.length = vs.size) (h1 : ∀ (j : Nat) v, vs[j]? = some v → v.oneCell' = true)
      (h : ∀ (j : Nat) c v, cs[j]? = some c → vs[j]? = some v → AR M I c v) : AR M I (.agg cs) (.agg vs)
  | slnil (fr : Bool) (sz : Nat) (base : Option Addr) (cap : Nat) : AR M I (.sl fr sz []) (.slice base 0 cap)
  | sl (fr : Bool) (sz : Nat) (es : List AV) (b o n cap : Nat) (hn : n = es.length) (hc : n ≤ cap) (vs : Nat → Value)
      (hv : ∀ (i : Nat) e, es[i]? = some e → AR M I e (vs i)) (hz : ∀ i, i < es.length → (vs i).cells.size = sz)
      (hI : ∀ (i j : Nat) c, i < es.length → (vs i).cells[j]? = some c → I b (o + i * sz + j) = some c) : AR M I (.sl fr sz es) (.slice (some ⟨b, o, none⟩) n cap)
  | ext (p : Imm → Value → Prop) (J : Imm) (v : Value) (hJ : ∀ b o u, J b o = some u → I b o = some u) (h1 : v.oneCell' = true) (hp : p J v) : AR M I (.ext p) v

def Imm.ok (I : Imm) (w : World) : Prop := ∀ b o v, I b o = some v → w.cell? ⟨b, o, none⟩ = some v
def Imm.le (I J : Imm) : Prop := ∀ b o v, I b o = some v → J b o = some v

/-- A row of cells that one place alone holds. -/
structure Row (M : Nat → Prop) (I : Imm) (w : World) (g : Nat) (sh : Bool) (sz : Nat) (es : List AV) (cap : Nat) : Prop where
  le : es.length ≤ cap
  capm : cap ≤ maxLen
  cells : ∀ o, o < cap * sz → ∃ v, w.cell? ⟨g, o, none⟩ = some v ∧ w.frozen? ⟨g, o, none⟩ = false
  elems : ∀ (i : Nat) e, es[i]? = some e → ∃ v, AR M I e v ∧ v.cells.size = sz ∧ ∀ (j : Nat) c, v.cells[j]? = some c → w.cell? ⟨g, i * sz + j, none⟩ = some c
  immc : sh = true → ∀ o v, o < es.length * sz → w.cell? ⟨g, o, none⟩ = some v → I g o = some v
  immn : ∀ o, (sh = true → es.length * sz ≤ o) → I g o = none

/-- A value that is handed over, and the rows that go with it. -/
def VRep (M : Nat → Prop) (I : Imm) (w : World) : AV → Value → List Nat → Prop
  | .own sh sz es, v, gs => (v = .slice none 0 0 ∧ es = [] ∧ gs = []) ∨ ∃ g cap, v = .slice (some ⟨g, 0, none⟩) es.length cap ∧ gs = [g] ∧ g < w.heap.size ∧ Row M I w g sh sz es cap
  | a, v, gs => AR M I a v ∧ gs = []
def VReps (M : Nat → Prop) (I : Imm) (w : World) : List AV → List Value → List Nat → Prop
  | [], [], gs => gs = []
  | a :: as, v :: vs, gs => ∃ g1 g2, gs = g1 ++ g2 ∧ VRep M I w a v g1 ∧ VReps M I w as vs g2
  | _, _, _ => False
def RRep (M : Nat → Prop) (I : Imm) (w : World) : AV → Value → List Nat → Prop
  | .tup rs, v, gs => ∃ vs, v = .tuple vs.toArray ∧ VReps M I w rs vs gs
  | a, v, gs => VRep M I w a v gs

/-- What a call leaves alone. -/
structure Fr (w w' : World) (mine : Nat → Prop) : Prop where
  os : w'.os = w.os
  tape : w'.tape = w.tape
  output : w'.output = w.output
  size : w.heap.size ≤ w'.heap.size
  block : ∀ k, k < w.heap.size → ¬ mine k → w'.heap[k]? = w.heap[k]?

/-- A function's contract over values. -/
structure Contract (P : Program) (f : FuncId) (args : List AV) (res : AV) : Prop where
  enters : ∃ fn c, P.funcs[f]? = some fn ∧ (fn.name == "runtime.NumGoroutine") = false ∧ fn.body = some c
  calls : ∀ (I : Imm) (w : World) (vs : List Value) (gs : List Nat), I.ok w → VReps (fun _ => True) I w args vs gs → gs.Nodup →
    Calls P f vs.toArray w fun e w' => ∃ v I' gs', e = .returned v ∧ Imm.le I I' ∧ Imm.ok I' w' ∧ Fr w w' (· ∈ gs) ∧
      (∀ b o u, I' b o = some u → I b o = some u ∨ w.heap.size ≤ b ∨ b ∈ gs) ∧ RRep (fun b => w.heap.size ≤ b ∨ b ∈ gs) I' w' res v gs' ∧ gs'.Nodup ∧
      ∀ g, g ∈ gs' → (w.heap.size ≤ g ∨ g ∈ gs) ∧ g < w'.heap.size

/-- What a function without a Go body tells: it only looks at its arguments. -/
def Extern (P : Program) (f : FuncId) (args : List AV) (res : AV) : Prop :=
  ∀ (I : Imm) (w : World) (vs : List Value) (gs : List Nat), I.ok w → VReps (fun _ => True) I w args vs gs →
    ∃ v, (callFunc f vs.toArray).run P w = .ok (.value v) w ∧ RRep (fun _ => False) I w res v []

/-- The same value with fewer marks of the call's own making. -/
inductive Dull : AV → AV → Prop
  | refl (a : AV) : Dull a a
  | agg (xs ys : List AV) (hl : xs.length = ys.length) (h : ∀ (j : Nat) x y, xs[j]? = some x → ys[j]? = some y → Dull x y) : Dull (.agg xs) (.agg ys)
  | sl (fr : Bool) (sz : Nat) (xs ys : List AV) (hl : xs.length = ys.length) (h : ∀ (j : Nat) x y, xs[j]? = some x → ys[j]? = some y → Dull x y) : Dull (.sl fr sz xs) (.sl false sz ys)
  | nil (fr : Bool) (sz : Nat) : Dull (.ext nilP) (.sl fr sz [])
inductive Dulls : List AV → List AV → Prop
  | nil : Dulls [] []
  | cons {x y : AV} {xs ys : List AV} : Dull x y → Dulls xs ys → Dulls (x :: xs) (y :: ys)
/-- No mark of the call's own making at all. -/
inductive Plain : AV → Prop
  | bool (b : Bool) : Plain (.bool b)
  | int (k : IntKind) (n : Int) : Plain (.int k n)
  | str (s : List UInt8) : Plain (.str s)
  | fn (f : FuncId) : Plain (.fn f)
  | nilf : Plain .nilf
  | ext (p : Imm → Value → Prop) : Plain (.ext p)
  | agg (cs : List AV) (h : ∀ c, c ∈ cs → Plain c) : Plain (.agg cs)
  | sl (sz : Nat) (es : List AV) (h : ∀ c, c ∈ es → Plain c) : Plain (.sl false sz es)
  | own (sh : Bool) (sz : Nat) (es : List AV) (h : ∀ c, c ∈ es → Plain c) : Plain (.own sh sz es)

/-- A cell of a zero value. -/
def AV.frz0 : AV → AV
  | .own _ _ _ => .ext nilP
  | v => v.frz
/-- The zero of an element's type. -/
def TI.zeroVal (t : TI) : AV := if t.kind.isAgg = true then .agg (t.zero.map AV.frz) else (t.zero.headD .bot).frz

/-- The parts of a struct or an array that is built: where a part stands, how many cells it has, its type. -/
def placeOf (C : Cfg) (T : TypeId) (i : Nat) : Option (Nat × Nat × TypeId) :=
  match (C.ti T).kind with
  | .struct fs => fs[i]?
  | .arr n e esz => if i < n then some (i * esz, esz, e) else none
  | _ => none
abbrev Parts := Option (List AV × ASt)
def partIn (cs : List AV) (off size : Nat) : Option (AV × ASt) → Parts
  | some (v, σ) => if decide (v.flat.length = size) && decide (off + size ≤ cs.length) then some (putAt cs off v.flat, σ) else none
  | none => none
def partAt (C : Cfg) (σ : ASt) (x : Operand) (cs : List AV) : Option (Nat × Nat × TypeId) → Parts
  | some (off, size, T) => partIn cs off size (σ.imm (σ.rd C T x))
  | none => none
def buildGo (C : Cfg) (T : TypeId) : List (Nat × Operand) → Parts → Parts
  | [], q => q
  | _ :: _, none => none
  | (i, x) :: r, some (cs, σ) => buildGo C T r (partAt C σ x cs (placeOf C T i))
def buildEnd (C : Cfg) (d : Option Nat) : Parts → R
  | some (cs, σ) => σ.wr C d (.agg cs)
  | none => .fail
def elemIn (es : List AV) (i size : Nat) : Option (AV × ASt) → Parts
  | some (v, σ) => if decide (v.flat.length = size) && decide (i < es.length) then some (es.set i v, σ) else none
  | none => none
def elemsGo (C : Cfg) (T : TypeId) (size : Nat) : List (Nat × Operand) → Parts → Parts
  | [], q => q
  | _ :: _, none => none
  | (i, x) :: r, some (es, σ) => elemsGo C T size r (elemIn es i size (σ.imm (σ.rd C T x)))
def elemsEnd (C : Cfg) (d : Option Nat) (esz : Nat) : Parts → R
  | some (es, σ) => σ.wr C d (.own false esz es)
  | none => .fail

def bsR (C : Cfg) (σ : ASt) (d : Option Nat) (n : Nat) (parts : List (Nat × Operand)) : TK → R
  | .slice e esz _ => .chk ((C.ti e).kind.known && decide (n * esz ≤ 16777216)) (elemsEnd C d esz (elemsGo C e esz parts (some (List.replicate n (C.ti e).zeroVal, σ))))
  | _ => .fail
/-- The arguments of a call; those that are handed over: by their places. -/
def argOwnRef (σ : ASt) (l : Loc) (acc : List AV) : Option AV → Parts
  | some (.own sh sz es) => some (acc ++ [.own sh sz es], σ.drop l)
  | _ => none
def argOwn (σ : ASt) (acc : List AV) : AV → Parts
  | .own _ sz [] => some (acc ++ [.own false sz []], σ)
  | .ref l => argOwnRef σ l acc (σ.at l)
  | _ => none
def argImm (acc : List AV) : Option (AV × ASt) → Parts
  | some (v, σ) => some (acc ++ [v], σ)
  | none => none
def argsGo (C : Cfg) (own : List Nat) : Nat → List Operand → List TypeId → Parts → Parts
  | _, [], _, q => q
  | _, _ :: _, _, none => none
  | i, x :: xs, ts, some (acc, σ) => argsGo C own (i + 1) xs ts.tail (if own.contains i = true then argOwn σ acc (σ.rd C (ts.headD 0) x) else argImm acc (σ.imm (σ.rd C (ts.headD 0) x)))
def callEnd (f : FuncId) (d : Option Nat) : Parts → R
  | some (as, σ) => .call f as d σ
  | none => .fail

/-- A call's result. -/
def AV.leansComp (t : Nat) : AV → Bool
  | .ref (.comp t' _) => Nat.beq t' t
  | .elt (.ref (.comp t' _)) _ _ => Nat.beq t' t
  | _ => false
def ASt.wrResTo (σ : ASt) (t : Nat) : AV → R
  | .own sh sz es => .ok (σ.putOwn t (.own sh sz es))
  | .tup vs => .ok { σ with tmps := ins t (.tup vs) (strike (AV.leansComp t) σ.tmps) }
  | v => .chk v.isImm (.ok (σ.put t v))
def ASt.wrRes (C : Cfg) (σ : ASt) (d : Option Nat) (v : AV) : R :=
  match d with
  | none => .ok σ
  | some t => .chk (C.may t && (look σ.vars t).isNone) (σ.wrResTo t v)

/-- A slice's own place is given up: what it held goes to the temporary t. -/
def ASt.takeO (C : Cfg) (σ : ASt) (d : Option Nat) (l : Loc) : Option AV → R
  | some (.own sh sz es) => (σ.drop l).wr C d (.own sh sz es)
  | _ => .fail
def ASt.take (C : Cfg) (σ : ASt) (d : Option Nat) (l : Loc) : R := σ.takeO C d l (σ.at l)

def asU8 : List AV → Option (List UInt8)
  | [] => some []
  | .int .u8 n :: r => (asU8 r).map fun l => UInt8.ofNat n.toNat :: l
  | _ :: _ => none

def assignR (C : Cfg) (σ : ASt) (d : Option Nat) : AV → R
  | .ref l => σ.take C d l
  | v => σ.wr C d v
def pickR (C : Cfg) (σ : ASt) (d : Option Nat) : AV → AV → AV → R
  | .bool t, a, b => .split t (σ.wr C d a) (σ.wr C d b)
  | _, _, _ => .fail
def ASt.newVar (σ : ASt) (d : Nat) (cs : List AV) : ASt := { tmps := ins d (.var d 0) (strike (AV.leansVar d) σ.tmps), vars := ins d cs σ.vars }
def allocR (C : Cfg) (σ : ASt) (T : TypeId) : Option Nat → R
  | some d => .chk (C.may d && (C.ti T).kind.known) (.ok (σ.newVar d (C.ti T).zero))
  | none => .fail
def boxR (C : Cfg) (T : TypeId) : Option Nat → Option (AV × ASt) → R
  | some d, some (v, σ) => .chk (C.may d) (.ok (σ.newVar d v.flat))
  | _, _ => .fail

/-- A value read out of a variable or an element. -/
def loadOne (C : Cfg) (σ : ASt) (d : Option Nat) (k off : Nat) : Option AV → R
  | some (.own _ _ _) => σ.wr C d (.ref (.cell k off))
  | some v => .chk v.isImm (σ.wr C d v)
  | none => .fail
def loadVar (C : Cfg) (σ : ASt) (d : Option Nat) (T : TypeId) (k off : Nat) : Option (List AV) → R
  | some cs => if (C.ti T).kind.isAgg = true then
      .chk (decide (off + (C.ti T).size ≤ cs.length) && ((cs.drop off).take (C.ti T).size).all (fun c => c.frz.isImm)) (ASt.wr C { σ with vars := ins k (markFrom cs off (C.ti T).size) σ.vars } d (.agg (((cs.drop off).take (C.ti T).size).map AV.frz)))
    else loadOne C σ d k off cs[off]?
  | none => .fail
def wrImm (C : Cfg) (σ : ASt) (d : Option Nat) : Option AV → R
  | some v => .chk v.isImm (σ.wr C d v)
  | none => .fail
def aggPart (off n : Nat) : AV → Option AV
  | .agg cs => if off + n ≤ cs.length then some (.agg ((cs.drop off).take n)) else none
  | _ => none
def AV.isAggV : AV → Bool
  | .agg _ => true
  | _ => false
def loadElem (C : Cfg) (σ : ASt) (d : Option Nat) (T : TypeId) (off sz : Nat) : Option AV → R
  | some e => if (C.ti T).kind.isAgg = true then
      (if decide (off = 0) && decide ((C.ti T).size = sz) then .chk e.isAggV (wrImm C σ d (some e)) else wrImm C σ d (aggPart off (C.ti T).size e))
    else wrImm C σ d e.flat[off]?
  | none => .fail
def loadElt (C : Cfg) (σ : ASt) (d : Option Nat) (T : TypeId) (i off : Nat) : Option (Nat × List AV) → R
  | some (sz, es) => loadElem C σ d T off sz es[i]?
  | none => .fail
def loadR (C : Cfg) (σ : ASt) (d : Option Nat) (T : TypeId) : AV → R
  | .var k off => .chk (C.ti T).kind.known (loadVar C σ d T k off (look σ.vars k))
  | .elt x i off => .chk (C.ti T).kind.known (loadElt C σ d T i off (σ.cont x))
  | _ => .fail

/-- A value laid into a variable or an element. -/
def storeOwn (C : Cfg) (σ : ASt) (k off : Nat) (sh : Bool) (sz : Nat) (es : List AV) : R :=
  .ok (ASt.setCell { σ with tmps := strike (AV.leans (.cell k off)) σ.tmps } k off (.own sh sz es))
/-- What leaned on the temporary t leans on l. -/
def AV.redir (t : Nat) (l : Loc) : AV → AV
  | .ref (.tmp s) => if Nat.beq s t = true then .ref l else .ref (.tmp s)
  | .elt (.ref (.tmp s)) i o => if Nat.beq s t = true then .elt (.ref l) i o else .elt (.ref (.tmp s)) i o
  | x => x
def redir (t : Nat) (l : Loc) : List (Nat × AV) → List (Nat × AV)
  | [] => []
  | (j, y) :: r => (j, if Nat.beq j t = true then .ref l else AV.redir t l y) :: redir t l r
def storeAl (C : Cfg) (σ : ASt) (k off : Nat) (sh : Bool) (sz : Nat) (es : List AV) : Loc → R
  | .tmp t => .ok (ASt.setCell { σ with tmps := redir t (.cell k off) (strike (AV.leans (.cell k off)) σ.tmps) } k off (.own sh sz es))
  | l => storeOwn C (σ.drop l) k off sh sz es
def storeRef (C : Cfg) (σ : ASt) (T : TypeId) (k off : Nat) (cs : List AV) (l : Loc) : Option AV → R
  | some (.own sh sz es) => .chk (decide (off < cs.length) && decide ((C.ti T).size = 1)) (storeAl C σ k off sh sz es l)
  | _ => .fail
def storeCells (C : Cfg) (σ : ASt) (T : TypeId) (k off : Nat) (cs : List AV) : AV → R
  | .ref l => storeRef C σ T k off cs l (σ.at l)
  | .own _ sz [] => .chk (decide (off < cs.length) && decide ((C.ti T).size = 1)) (storeOwn C σ k off false sz [])
  | v => .chk (v.isImm && (decide (v.flat.length = (C.ti T).size) && decide (off + (C.ti T).size ≤ cs.length))) (.ok { σ with vars := ins k (putAt cs off v.flat) σ.vars })
def storeVar (C : Cfg) (σ : ASt) (T : TypeId) (k off : Nat) (v : AV) : Option (List AV) → R
  | some cs => storeCells C σ T k off cs v
  | none => .fail
def storePart (C : Cfg) (σ : ASt) (T : TypeId) (l : Loc) (i off sz : Nat) (es : List AV) (v : AV) : Option AV → R
  | some e => if decide (off = 0) && decide ((C.ti T).size = sz) then .chk (decide (v.flat.length = (C.ti T).size)) (.ok (σ.turn l (.own false sz (es.set i v))))
    else match e with
      | .agg cs => .chk (decide (v.flat.length = (C.ti T).size) && decide (off + (C.ti T).size ≤ cs.length)) (.ok (σ.turn l (.own false sz (es.set i (.agg (putAt cs off v.flat))))))
      | _ => .fail
  | none => .fail
def storeRow (C : Cfg) (σ : ASt) (T : TypeId) (l : Loc) (i off : Nat) (v : AV) : Option AV → R
  | some (.own false sz es) => .chk l.plain (storePart C σ T l i off sz es v es[i]?)
  | _ => .fail
def storeElt (C : Cfg) (T : TypeId) (i off : Nat) (l : Loc) : Option (AV × ASt) → R
  | some (v, σ) => .chk v.isImm (storeRow C σ T l i off v (σ.at l))
  | none => .fail
def storeR (C : Cfg) (σ : ASt) (T : TypeId) (v : AV) : AV → R
  | .var k off => .chk (C.ti T).kind.known (storeVar C σ T k off v (look σ.vars k))
  | .elt (.ref l) i off => .chk (C.ti T).kind.known (storeElt C T i off l (σ.imm v))
  | _ => .fail

def convBytes (C : Cfg) (σ : ASt) (d : Option Nat) : Option (List UInt8) → R
  | some s => σ.wr C d (.str s)
  | none => .fail
def convCont (C : Cfg) (σ : ASt) (d : Option Nat) : Option (Nat × List AV) → R
  | some (1, es) => convBytes C σ d (asU8 es)
  | _ => .fail
def isU8 : TK → Bool
  | .int .u8 => true
  | _ => false
def convR (C : Cfg) (σ : ASt) (d : Option Nat) : TK → TK → AV → R
  | .int _, .int k, .int _ n => σ.wr C d (.int k (k.wrap n))
  | .str, .str, .str s => σ.wr C d (.str s)
  | .str, .slice e _ _, .str s => .chk (isU8 (C.ti e).kind) (.need (s.length ≤ 9223372036854775807) (σ.wr C d (.own false 1 (s.map u8))))
  | .slice e _ _, .str, v => .chk (isU8 (C.ti e).kind) (convCont C σ d (σ.cont v))
  | _, _, _ => .fail
def makeR (C : Cfg) (σ : ASt) (d : Option Nat) : TK → AV → AV → R
  | .slice e esz eb, .int .i64 n, .int .i64 m => .chk (C.ti e).kind.known (.need (n = m ∧ 0 ≤ n ∧ n.toNat * eb ≤ 140737488355328) (σ.wr C d (.own false esz (List.replicate n.toNat (C.ti e).zeroVal))))
  | _, _, _ => .fail

/-- A slice cut out of another one, or out of a text. -/
def optI (C : Cfg) (σ : ASt) (n : Nat) : Option Operand → AV
  | none => .int .i64 n
  | some q => σ.rd C 0 q
def cutSl (C : Cfg) (d : Option Nat) (σ : ASt) (fr : Bool) (sz : Nat) (es : List AV) : AV → AV → R
  | .int _ l, .int _ h => .need ((0 ≤ h ∧ h ≤ es.length) ∧ (0 ≤ l ∧ l ≤ h)) (σ.wr C d (.sl fr sz ((es.drop l.toNat).take (h.toNat - l.toNat))))
  | _, _ => .fail
def cutImm (C : Cfg) (d : Option Nat) (lo hi : Option Operand) : TK → Option (AV × ASt) → R
  | .slice _ esz _, some (.sl fr sz es, σ) => .chk (decide (esz = sz)) (cutSl C d σ fr sz es (optI C σ 0 lo) (optI C σ es.length hi))
  | _, _ => .fail
def cutStr (C : Cfg) (σ : ASt) (d : Option Nat) (s : List UInt8) : AV → AV → R
  | .int _ l, .int _ h => .need ((0 ≤ h ∧ h ≤ s.length) ∧ (0 ≤ l ∧ l ≤ h)) (σ.wr C d (.str ((s.drop l.toNat).take (h.toNat - l.toNat))))
  | _, _ => .fail
/-- A variable that is an array, given up for a slice of all of it. -/
def delV (k : Nat) : List (Nat × List AV) → List (Nat × List AV)
  | [] => []
  | (j, cs) :: r => if k = j then delV k r else (j, cs) :: delV k r
def ASt.freeVar (σ : ASt) (k : Nat) : ASt := { σ with vars := delV k σ.vars }
def cutArr (C : Cfg) (σ : ASt) (d : Option Nat) (n k : Nat) : Option (List AV) → R
  | some cs => .chk (decide (cs.length = n) && cs.all AV.isImm && cs.all (fun c => decide (c.flat.length = 1)) && decide (n ≤ 9223372036854775807)) ((σ.freeVar k).wr C d (.sl true 1 cs))
  | none => .fail
def cutR (C : Cfg) (σ : ASt) (d : Option Nat) (lo hi : Option Operand) : TK → AV → R
  | .str, .str s => cutStr C σ d s (optI C σ 0 lo) (optI C σ s.length hi)
  | .arr n _ 1, .var k 0 => .chk (lo.isNone && hi.isNone) (cutArr C σ d n k (look σ.vars k))
  | k, v => cutImm C d lo hi k (σ.imm v)

/-- A function that holds a variable, given up for it: what the variable holds never changes any more. -/
def cloP (f : FuncId) (cs : List AV) : Imm → Value → Prop := fun J v => ∃ b, v = .func (.func f) #[] #[.pointer (some ⟨b, 0, none⟩)] ∧ AR (fun _ => True) J (.sl false cs.length [.agg cs]) (.slice (some ⟨b, 0, none⟩) 1 1)
def capV (C : Cfg) (σ : ASt) (d : Option Nat) (f : FuncId) (k : Nat) : Option (List AV) → R
  | some cs => .chk (cs.all AV.isImm) ((σ.freeVar k).wr C d (.ext (cloP f cs)))
  | none => .fail
def capR (C : Cfg) (σ : ASt) (d : Option Nat) (f : FuncId) : AV → R
  | .var k 0 => capV C σ d f k (look σ.vars k)
  | _ => .fail
def mkFnR (C : Cfg) (σ : ASt) (d : Option Nat) (f : FuncId) : List Operand → List Operand → R
  | [], [] => σ.wr C d (.fn f)
  | [], [x] => capR C σ d f (σ.rd C 0 x)
  | _, _ => .fail

def addrR (C : Cfg) (σ : ASt) (d : Option Nat) : Option (Nat × Nat × TypeId) → AV → R
  | some (foff, _, _), .var k off => .chk (look σ.vars k).isSome (σ.wr C d (.var k (off + foff)))
  | some (foff, _, _), .elt x i off => .chk (σ.cont x).isSome (σ.wr C d (.elt x i (off + foff)))
  | _, _ => .fail
def structF (f : Nat) : TK → Option (Nat × Nat × TypeId)
  | .struct fs => fs[f]?
  | _ => none
def fieldR (C : Cfg) (σ : ASt) (d : Option Nat) : Option (Nat × Nat × TypeId) → AV → R
  | some (foff, fsz, FT), .agg cs => .chk (C.ti FT).kind.known (if (C.ti FT).kind.isAgg = true then wrImm C σ d (aggPart foff (C.ti FT).size (.agg cs)) else wrImm C σ d cs[foff]?)
  | _, _ => .fail
def idxSl (C : Cfg) (σ : ASt) (d : Option Nat) (v : AV) (i : Int) (esz : Nat) : Option (Nat × List AV) → R
  | some (sz, es) => .chk (decide (sz = esz)) (.need (0 ≤ i ∧ i < es.length) (σ.wr C d (.elt v i.toNat 0)))
  | none => .fail
def idxAddrR (C : Cfg) (σ : ASt) (d : Option Nat) : TK → AV → AV → R
  | .arr n _ esz, .var k off, .int _ i => .chk (look σ.vars k).isSome (.need (0 ≤ i ∧ i < n) (σ.wr C d (.var k (off + i.toNat * esz))))
  | .arr n _ esz, .elt y j off, .int _ i => .chk (σ.cont y).isSome (.need (0 ≤ i ∧ i < n) (σ.wr C d (.elt y j (off + i.toNat * esz))))
  | .slice _ esz _, v, .int _ i => idxSl C σ d v i esz (σ.cont v)
  | _, _, _ => .fail
def idxR (C : Cfg) (σ : ASt) (d : Option Nat) : TK → AV → AV → R
  | .arr n e esz, .agg cs, .int _ i => .need (0 ≤ i ∧ i < n) (.chk (C.ti e).kind.known (if (C.ti e).kind.isAgg = true then wrImm C σ d (aggPart (i.toNat * esz) (C.ti e).size (.agg cs)) else wrImm C σ d cs[i.toNat * esz]?))
  | .str, .str s, .int _ i => .need (0 ≤ i ∧ i < s.length) (wrImm C σ d ((s[i.toNat]?).map u8))
  | _, _, _ => .fail
def extrOne (C : Cfg) (σ : ASt) (d : Option Nat) (t i : Nat) : Option AV → R
  | some (.own sh sz es) => (σ.drop (.comp t i)).wr C d (.own sh sz es)
  | some v => wrImm C σ d (some v)
  | none => .fail
def extrR (C : Cfg) (σ : ASt) (d : Option Nat) (t i : Nat) : Option AV → R
  | some (.tup vs) => extrOne C σ d t i vs[i]?
  | _ => .fail

def lenCont (C : Cfg) (σ : ASt) (d : Option Nat) : Option (Nat × List AV) → R
  | some (_, es) => σ.wr C d (.int .i64 es.length)
  | none => .fail
def lenR (C : Cfg) (σ : ASt) (d : Option Nat) : TK → AV → R
  | .str, .str s => σ.wr C d (.int .i64 s.length)
  | .slice _ _ _, v => lenCont C σ d (σ.cont v)
  | _, _ => .fail
def appKind : TK → Bool
  | .slice _ _ _ | .str => true
  | _ => false
def appSrc (σ : ASt) : AV → Option (Nat × List AV)
  | .str s => some (1, s.map u8)
  | v => σ.cont v
def appRef (C : Cfg) (σ : ASt) (d : Option Nat) (esz eb : Nat) (l : Loc) (xs : List AV) : Option AV → R
  | some (.own sh sz es) => .chk (decide (sz = esz)) (.need ((es.length + xs.length) * eb ≤ 140737488355328) ((σ.drop l).wr C d (.own sh sz (es ++ xs))))
  | _ => .fail
def appTo (C : Cfg) (σ : ASt) (d : Option Nat) (esz eb : Nat) : AV → Option (Nat × List AV) → R
  | .own _ _ [], some (zx, xs) => .chk (decide (zx = esz)) (.need (xs.length * eb ≤ 140737488355328) (σ.wr C d (.own false esz xs)))
  | .ref l, some (zx, xs) => .chk (decide (zx = esz)) (appRef C σ d esz eb l xs (σ.at l))
  | .ext p, some (zx, xs) => .need (p = nilP) (.chk (decide (zx = esz)) (.need (xs.length * eb ≤ 140737488355328) (σ.wr C d (.own false esz xs))))
  | _, _ => .fail
def appR (C : Cfg) (σ : ASt) (d : Option Nat) : TK → AV → AV → R
  | .slice _ esz eb, s, x => appTo C σ d esz eb s (appSrc σ x)
  | _, _, _ => .fail
def maxR (C : Cfg) (σ : ASt) (d : Option Nat) : AV → AV → R
  | .int k a, .int _ b => σ.wr C d (.int k (if b > a then b else a))
  | _, _ => .fail
def fnOf : Option AV → Option FuncId
  | some (.fn f) => some f
  | _ => none
def callFn (C : Cfg) (σ : ASt) (d : Option Nat) (args : List Operand) (ts : List TypeId) : Option FuncId → R
  | some f => callEnd f d (argsGo C (C.ownp f) 0 args ts (some ([], σ)))
  | none => .fail
def callLen (C : Cfg) (σ : ASt) (d : Option Nat) : List Operand → List TypeId → R
  | [x], [S] => lenR C σ d (C.ti S).kind (σ.rd C S x)
  | _, _ => .fail
def callApp (C : Cfg) (σ : ASt) (d : Option Nat) : List Operand → List TypeId → R
  | [s, x], [S, X] => .chk (appKind (C.ti X).kind) (appR C σ d (C.ti S).kind (σ.rd C S s) (σ.rd C X x))
  | _, _ => .fail
def callMax (C : Cfg) (σ : ASt) (d : Option Nat) (T : TypeId) : List Operand → R
  | [x, y] => maxR C σ d (σ.rd C T x) (σ.rd C T y)
  | _ => .fail
def callR (C : Cfg) (σ : ASt) (d : Option Nat) (T : TypeId) (args : List Operand) (ts : List TypeId) : Callee → R
  | .value (.func f) => callEnd f d (argsGo C (C.ownp f) 0 args ts (some ([], σ)))
  | .value (.tmp t) => callFn C σ d args ts (fnOf (look σ.tmps t))
  | .builtin .len => callLen C σ d args ts
  | .builtin .append => callApp C σ d args ts
  | .builtin .max => callMax C σ d T args
  | _ => .fail

/-- A copy; a tuple is handed on whole. -/
def AV.isOwn : AV → Bool
  | .own .. => true
  | _ => false
def moveTup (C : Cfg) (σ : ASt) (i : Nat) : Option Nat → Option AV → R
  | some t, some (.tup vs) => .chk (C.may t && (look σ.vars t).isNone && vs.all (fun v => v.isImm || v.isOwn)) (.ok { σ with tmps := ins t (.tup vs) (strike (AV.leansComp t) (ins i .bot σ.tmps)) })
  | _, _ => .fail
def moveR (C : Cfg) (σ : ASt) (d : Option Nat) : AV → Operand → R
  | .bot, .tmp i => moveTup C σ i d (look σ.tmps i)
  | .bot, _ => .fail
  | v, _ => σ.wr C d v
/-- One operation. -/
def opR (C : Cfg) (σ : ASt) (d : Option Nat) (ty : TypeId) : Op → R
  | .move x => moveR C σ d (σ.rd C ty x) x
  | .assign x => assignR C σ d (σ.rd C ty x)
  | .pick c a b => pickR C σ d (σ.rd C ty c) (σ.rd C ty a) (σ.rd C ty b)
  | .alloc T => allocR C σ T d
  | .box T x => boxR C T d (σ.imm (σ.rd C T x))
  | .build T parts => .chk (C.ti T).kind.isAgg (buildEnd C d (buildGo C T parts.toList (some ((C.ti T).zero.map AV.frz0, σ))))
  | .buildSlice T n parts => bsR C σ d n parts.toList (C.ti T).kind
  | .load T p => loadR C σ d T (σ.rd C 0 p)
  | .store T p x => .chk d.isNone (storeR C σ T (σ.rd C T x) (σ.rd C 0 p))
  | .binOp op T x y _ => binR C σ d T op (σ.rd C T x) (σ.rd C T y)
  | .unOp op T x => σ.wrO C d (unVal op (σ.rd C T x))
  | .convert S D x => convR C σ d (C.ti S).kind (C.ti D).kind (σ.rd C S x)
  | .makeFunc (.func f) first captured => mkFnR C σ d f first.toList captured.toList
  | .makeSlice T l c => makeR C σ d (C.ti T).kind (σ.rd C 0 l) (σ.rd C 0 c)
  | .slice T x lo hi none => cutR C σ d lo hi (C.ti T).kind (σ.rd C T x)
  | .fieldAddr T p f => addrR C σ d (structF f (C.ti T).kind) (σ.rd C 0 p)
  | .field T x f => fieldR C σ d (structF f (C.ti T).kind) (σ.rd C T x)
  | .indexAddr T x ix => idxAddrR C σ d (C.ti T).kind (σ.rd C T x) (σ.rd C 0 ix)
  | .index T x ix => idxR C σ d (C.ti T).kind (σ.rd C T x) (σ.rd C 0 ix)
  | .extract (.tmp t) i => extrR C σ d t i (look σ.tmps t)
  | .call c => callR C σ d ty c.args.toList c.argTypes.toList c.callee
  | _ => .fail

/-- A guard: the operation is carried out, or passed over. -/
def grdO (C : Cfg) (σ : ASt) (o : Oper) (t : Nat) (want : Bool) : Option AV → R
  | some (.bool b) => .split (b == want) (opR C { σ with tmps := ins t (.bool want) σ.tmps } o.dst o.type o.op) (ASt.wr C { σ with tmps := ins t (.bool !want) σ.tmps } o.dst .undef)
  | some .undef => σ.wr C o.dst .undef
  | _ => .fail
def grdT (C : Cfg) (σ : ASt) (o : Oper) (want : Bool) : Option Nat → R
  | some t => grdO C σ o t want (look σ.tmps t)
  | none => .fail
def stepR (C : Cfg) (ops : List Oper) (σ : ASt) (o : Oper) : R :=
  match o.guard with
  | none => opR C σ o.dst o.type o.op
  | some (j, want) => grdT C σ o want ((ops[j]?).bind (·.dst))

/-- What a result owes. -/
def R.wp (C : Cfg) (K : ASt → Prop) : R → Prop
  | .ok σ => K σ
  | .fail => False
  | .need p r => p ∧ r.wp C K
  | .split b r s => (b = true → r.wp C K) ∧ (b = false → s.wp C K)
  | .both p r s => (p → r.wp C K) ∧ s.wp C K
  | .call f as d σ => ∃ bs res, Dulls as bs ∧ (Contract C.P f bs res ∨ Extern C.P f bs res) ∧ ∃ σ', σ.wrRes C d res = .ok σ' ∧ K σ'

def aops (C : Cfg) (ops : List Oper) (Q : ASt → Prop) : List Oper → ASt → Prop
  | [], σ => Q σ
  | o :: r, σ => (stepR C ops σ o).wp C (aops C ops Q r)

inductive AEx where
  | normal
  | exit (id : Nat)
  | ret
def AEx.then (K : ASt → Prop) (Q : AEx → ASt → Prop) : AEx → ASt → Prop
  | .normal, σ => K σ
  | e, σ => Q e σ
def AEx.inBlock (id : Nat) (Q : AEx → ASt → Prop) : AEx → ASt → Prop
  | .exit i, σ => if i = id then Q .normal σ else Q (.exit i) σ
  | e, σ => Q e σ

def keepV : List Nat → List (Nat × List AV) → List (Nat × List AV)
  | _, [] => []
  | ks, (j, cs) :: r => consIf (ks.contains j) (j, cs) (keepV ks r)
def ASt.keep (σ : ASt) (live : List Nat) : ASt := { tmps := keepL live σ.tmps, vars := keepV live σ.vars }

/-- Rounds of a loop. -/
def arounds (L : List Nat) (body : (AEx → ASt → Prop) → ASt → Prop) (Q : AEx → ASt → Prop) : Nat → ASt → Prop
  | 0, _ => False
  | n + 1, σ => body (AEx.then (arounds L body Q n) Q) (σ.keep L)

/-- What may be carried out while variables are locked. -/
def lockedOk : Op → Bool
  | .store _ _ _ => false
  | _ => true
def convQ : TK → TK → Bool
  | .int _, .int _ => true
  | .str, .str => true
  | _, _ => false
inductive Ord where
  | fin
  | quiet (i : Nat) (t : Ord)
  | one (i : Nat) (t : Ord)
  | two (i : Nat) (t : Ord) (j : Nat) (u : Ord)
  | three (i : Nat) (t : Ord) (j : Nat) (u : Ord) (k : Nat) (v : Ord)
  | lone (i : Nat) (t : Ord)
  | unlock (t : Ord)
def Ord.depth : Ord → Nat
  | .fin => 0
  | .quiet _ t => t.depth + 1
  | .one _ t => t.depth + 1
  | .two _ t _ u => max t.depth u.depth + 1
  | .three _ t _ u _ v => max t.depth (max u.depth v.depth) + 1
  | .lone _ t => t.depth + 1
  | .unlock t => t.depth
def waitsAll (ops : Array Oper) (B : List Nat) (i : Nat) : Bool :=
  B.all fun j => match ops[j]? with | some oj => oj.after.any (fun e => Region.binds .any e && e.on == i) | none => true
/-- What looks at values alone. -/
def pureOp : Op → Bool
  | .load _ _ => false
  | _ => true
def pureB (ops : Array Oper) (i : Nat) : Bool :=
  match ops[i]? with
  | some o => pureOp o.op
  | none => false
def mayOne (ops : Array Oper) (B : List Nat) (lk : Bool) (i : Nat) : Bool :=
  match lk with
  | true => (match ops[i]? with | some o => lockedOk o.op | none => false)
  | false => B.contains i
def okOrd (ops : Array Oper) (B : List Nat) : Bool → Array Bool → Ord → Bool
  | _, listed, .fin => (Region.ready .any ops listed).isEmpty
  | lk, listed, .quiet i t => (lk || pureB ops i) && ((Region.ready .any ops listed).contains i && (Region.free .any ops listed i && ((pureB ops i || waitsAll ops B i) && okOrd ops B lk (listed.setIfInBounds i true) t)))
  | lk, listed, .one i t => ((Region.ready .any ops listed).contains i && (Region.ready .any ops listed).all (fun j => j == i)) && (mayOne ops B lk i && okOrd ops B lk (listed.setIfInBounds i true) t)
  | lk, listed, .two i t j u => ((Region.ready .any ops listed).contains i && (Region.ready .any ops listed).all (fun k => k == i || k == j)) && (mayOne ops B lk i && (mayOne ops B lk j && (okOrd ops B lk (listed.setIfInBounds i true) t && okOrd ops B lk (listed.setIfInBounds j true) u)))
  | lk, listed, .three i t j u k v => ((Region.ready .any ops listed).contains i && (Region.ready .any ops listed).all (fun m => m == i || m == j || m == k)) && (mayOne ops B lk i && (mayOne ops B lk j && (mayOne ops B lk k && (okOrd ops B lk (listed.setIfInBounds i true) t && (okOrd ops B lk (listed.setIfInBounds j true) u && okOrd ops B lk (listed.setIfInBounds k true) v)))))
  | lk, listed, .lone i t => lk && (((Region.ready .any ops listed).contains i && (Region.ready .any ops listed).all (fun j => j == i)) && okOrd ops B lk (listed.setIfInBounds i true) t)
  | lk, listed, .unlock t => lk && okOrd ops B false listed t

/-- Operations that yield their value in every later world. -/
def quietLoad (ns : List Nat) : AV → Bool
  | .var k _ => !ns.contains k
  | .elt (.ref _) _ _ => false
  | _ => true
def quietCallee : Callee → Bool
  | .builtin .len | .builtin .max => true
  | _ => false
def quietOp (C : Cfg) (ns : List Nat) (σ : ASt) : Op → Bool
  | .move _ | .assign _ | .pick _ _ _ | .binOp _ _ _ _ _ | .unOp _ _ _ | .fieldAddr _ _ _ | .field _ _ _ | .indexAddr _ _ _ | .index _ _ _ => true
  | .makeFunc (.func _) _ _ => true
  | .extract (.tmp _) _ => true
  | .slice _ _ _ _ none => true
  | .convert S T _ => convQ (C.ti S).kind (C.ti T).kind
  | .load _ x => quietLoad ns (σ.rd C 0 x)
  | .call c => quietCallee c.callee
  | _ => false
def aoq (C : Cfg) (ops : List Oper) (ns : List Nat) (σ : ASt) (K : ASt → Prop) : Option Oper → Prop
  | some o => quietOp C ns σ o.op = true ∧ (stepR C ops σ o).wp C K
  | none => False
def aoo (C : Cfg) (ops : List Oper) (σ : ASt) (K : ASt → Prop) : Option Oper → Prop
  | some o => (stepR C ops σ o).wp C K
  | none => False
/-- A store into an element of a row: it leaves all variables as they are. -/
def eltAddr (ns : List Nat) : AV → Bool
  | .elt _ _ _ => true
  | .var k _ => ns.contains k
  | _ => false
def loneOp (C : Cfg) (ns : List Nat) (σ : ASt) : Op → Bool
  | .store _ p _ => eltAddr ns (σ.rd C 0 p)
  | _ => false
def aol (C : Cfg) (ops : List Oper) (ns : List Nat) (σ : ASt) (K : ASt → Prop) : Option Oper → Prop
  | some o => (o.guard.isNone && loneOp C ns σ o.op) = true ∧ (stepR C ops σ o).wp C K
  | none => False
/-- The variables that a region makes. -/
def madeB (ns : List Nat) (o : Oper) : Bool :=
  match o.op with
  | .alloc _ | .box _ _ => match o.dst with | some d => ns.contains d | none => true
  | _ => true
def aord (C : Cfg) (ops : List Oper) (ns : List Nat) (K : ASt → Prop) : Ord → ASt → Prop
  | .fin, σ => K σ
  | .quiet i t, σ => aoq C ops ns σ (aord C ops ns K t) ops[i]?
  | .one i t, σ => aoo C ops σ (aord C ops ns K t) ops[i]?
  | .two i t j u, σ => aoo C ops σ (aord C ops ns K t) ops[i]? ∧ aoo C ops σ (aord C ops ns K u) ops[j]?
  | .three i t j u k v, σ => aoo C ops σ (aord C ops ns K t) ops[i]? ∧ aoo C ops σ (aord C ops ns K u) ops[j]? ∧ aoo C ops σ (aord C ops ns K v) ops[k]?
  | .lone i t, σ => aol C ops ns σ (aord C ops ns K t) ops[i]?
  | .unlock t, σ => aord C ops ns K t σ

def condA (σ : ASt) (P Q : Prop) : AV → Prop
  | .bool t => (t = true → P) ∧ (t = false → Q)
  | _ => False

/-! Loops over functions. -/
/-- One round of loop l, of the value u: what it tells the function that is ranged over. -/
def RoundW (P : Program) (l : Nat) (u : Value) (w : World) (R : Bool → World → Prop) : Prop :=
  ∃ f tmps assign body, (Instr.yield l #[u]).run P w = .ok (.round l f tmps assign body) w ∧
    RoundIn Fence.wide 0 P l f tmps assign body w fun e w' => ∃ b, e = .returned (.bool b) ∧ R b w'
/-- What another's step turns: the blocks gs, of which gs' are left, and new ones. -/
structure RStep (w : World) (I : Imm) (gs : List Nat) (w' : World) (I' : Imm) (gs' : List Nat) : Prop where
  fr : Fr w w' (· ∈ gs)
  le : Imm.le I I'
  ok : Imm.ok I' w'
  inew : ∀ b o u, I' b o = some u → I b o = some u ∨ w.heap.size ≤ b ∨ b ∈ gs
  mine : ∀ g, g ∈ gs' → (g ∈ gs ∨ w.heap.size ≤ g) ∧ g < w'.heap.size
/-- A function that hands xs, one by one, to the loop that ranges over it. -/
def Iter (P : Program) (p : Imm → Value → Prop) (xs : List AV) : Prop :=
  ∀ (J : Imm) (v : Value), p J v → ∃ gf lb, v = .func (.func gf) #[] lb ∧ (∀ args w, (callFunc gf args).run P w = .ok (.enter gf args) w) ∧
    ∀ (l : Nat) (Inv : Nat → List Nat → Imm → World → Prop) (Stop : List Nat → Imm → World → Prop) (gs : List Nat) (I : Imm) (w : World),
      Imm.ok I w → Imm.le J I → (∀ g, g ∈ gs → g < w.heap.size) → Inv 0 gs I w →
      (∀ i gs I w I' w', Inv i gs I w → RStep w I [] w' I' [] → Inv i gs I' w') →
      (∀ gs I w I' w', Stop gs I w → RStep w I [] w' I' [] → Stop gs I' w') →
      (∀ i x u gs I w, xs[i]? = some x → Inv i gs I w → Imm.ok I w → AR (fun _ => True) I x u →
        RoundW P l u w fun b w' => ∃ gs' I', RStep w I gs w' I' gs' ∧ ((b = true ∧ Inv (i + 1) gs' I' w') ∨ (b = false ∧ Stop gs' I' w'))) →
      Calls P gf (#[.func (.yield l) #[] #[]] ++ lb) w fun e w' => ∃ v gs I, e = .returned v ∧ (Inv xs.length gs I w' ∨ Stop gs I w')
/-- What a round does not see of the temporaries; what is lost behind the loop. -/
def AV.dropR (ks : List Nat) : AV → Bool
  | .var k _ => !ks.contains k
  | .bool _ | .int _ _ | .str _ => false
  | _ => true
def AV.dropA (ks : List Nat) : AV → Bool
  | .var k _ => !ks.contains k
  | .own _ _ _ => false
  | x => !x.isImm
def Cfg.round (C : Cfg) (ks : List Nat) : Cfg := { C with fix := ks, inr := true }
def roundQ (ks : List Nat) (ta : List (Nat × AV)) (s : List (Nat × List AV)) (Q : AEx → ASt → Prop) : AEx → ASt → Prop
  | .normal, τ => keepV ks τ.vars = s
  | .exit id, τ => Q (.exit id) ⟨ta, keepV ks τ.vars⟩
  | .ret, τ => Q .ret ⟨ta, keepV ks τ.vars⟩

/-- The weakest precondition of code. -/
def aco : Cfg → Code → (AEx → ASt → Prop) → ASt → Prop
  | _, .skip, Q, σ => Q .normal σ
  | _, .label _, Q, σ => Q .normal σ
  | C, .scope c, Q, σ => aco C c Q σ
  | C, .region _ ops false, Q, σ => aops C ops.toList (fun σ' => Q .normal (σ'.keep C.live)) ops.toList σ
  | C, .region _ ops true, Q, σ => ∃ B ns t, (Region.noSelect ops && (ops.toList.all (madeB ns) && (okOrd ops B true (Array.replicate ops.size false) t && decide (t.depth ≤ ops.size)))) = true ∧ aord C ops.toList ns (fun σ' => Q .normal (σ'.keep C.live)) t σ
  | C, .seq a b, Q, σ => aco C a (AEx.then (aco C b Q) Q) σ
  | C, .cond c a b, Q, σ => condA σ (aco C a Q σ) (aco C b Q σ) (σ.rd C 0 c)
  | C, .block id c, Q, σ => aco C c (AEx.inBlock id Q) σ
  | C, .loop c, Q, σ => ∃ L n, arounds L (aco C c) Q n σ
  | _, .exit id, Q, σ => Q (.exit id) σ
  | _, .ret, Q, σ => Q .ret σ
  | C, .rangeFunc g ps (.region _ ops false) body, Q, σ => ∃ (ks : List Nat) (t : Nat) (p : Imm → Value → Prop) (xs : List AV) (st : Nat → List (Nat × List AV)),
      (C.inr = false ∧ C.fix = [] ∧ ps = #[t] ∧ t < C.n ∧ ks.contains t = false ∧ ks.all (fun k => (look σ.vars k).isSome) = true ∧ σ.rd C 0 g = .ext p ∧ Iter C.P p xs ∧ keepV ks σ.vars = st 0) ∧
      (∀ i x, xs[i]? = some x → x.isImm = true ∧ aops (C.round ks) ops.toList (fun τ => aco (C.round ks) body (roundQ ks (strike (AV.dropA ks) σ.tmps) (st (i + 1)) Q) (τ.keep C.live)) ops.toList ⟨ins t x (strike (AV.dropR ks) σ.tmps), st i⟩) ∧
      Q .normal ⟨strike (AV.dropA ks) σ.tmps, st xs.length⟩
  | _, _, _, _ => False

/-- The result of a call. -/
def resTmp : Option AV → Option AV
  | some (.own sh sz es) => some (.own sh sz es)
  | some v => if v.isImm = true then some v else none
  | none => none
def resCells (C : Cfg) (T : TypeId) : Option (List AV) → Option AV
  | some cs => if decide (cs.length = (C.ti T).size) && cs.all (fun c => c.frz.isImm) then (if (C.ti T).kind.isAgg = true then some (.agg (cs.map AV.frz)) else cs[0]?.map AV.frz) else none
  | none => none
def resVar (C : Cfg) (σ : ASt) (T : TypeId) : Option AV → Option AV
  | some (.var k 0) => resCells C T (look σ.vars k)
  | _ => none
def resOne (C : Cfg) (σ : ASt) : ResultVar → Option AV
  | .tmp t => resTmp (look σ.tmps t)
  | .cell t T => resVar C σ T (look σ.tmps t)
def resCons : Option AV → Option (List AV) → Option (List AV)
  | some v, some vs => some (v :: vs)
  | _, _ => none
def resAll (C : Cfg) (σ : ASt) : List ResultVar → Option (List AV)
  | [] => some []
  | r :: rs => resCons (resOne C σ r) (resAll C σ rs)
def resTup : Option (List AV) → Option AV
  | some [v] => some v
  | some vs => some (.tup vs)
  | none => none
def resOf (C : Cfg) (σ : ASt) (rs : List ResultVar) : Option AV := resTup (resAll C σ rs)

/-- The state in which a call begins. -/
def argsAt : Nat → List AV → List (Nat × AV)
  | _, [] => []
  | i, a :: as => (i, a) :: argsAt (i + 1) as
def startSt (args : List AV) : ASt := { tmps := argsAt 0 args, vars := [] }

/-- What is still to be done. -/
inductive Todo where
  | code (c : Code)
  | res (r : R)
  | ops (all r : List Oper)
  | br (v : AV) (a b : Code)
  | keep
  | ord (all : List Oper) (ns : List Nat) (t : Ord)
  | oq (o : Option Oper) (q : Bool) (ns : List Nat) (all : List Oper)
  | ol (o : Option Oper) (ns : List Nat) (all : List Oper)
  | inBlock (id : Nat)
  | rounds (L : List Nat) (n : Nat) (c : Code)

def exec (C : Cfg) (Q : AEx → ASt → Prop) : List Todo → AEx → ASt → Prop
  | [], e, σ => Q e σ
  | .code c :: k, .normal, σ => aco C c (exec C Q k) σ
  | .res r :: k, .normal, _ => r.wp C (exec C Q k .normal)
  | .ops all r :: k, .normal, σ => aops C all (exec C Q k .normal) r σ
  | .br v a b :: k, .normal, σ => condA σ (aco C a (exec C Q k) σ) (aco C b (exec C Q k) σ) v
  | .keep :: k, .normal, σ => exec C Q k .normal (σ.keep C.live)
  | .ord all ns t :: k, .normal, σ => aord C all ns (exec C Q k .normal) t σ
  | .oq o true ns all :: k, .normal, σ => aoq C all ns σ (exec C Q k .normal) o
  | .oq o false ns all :: k, .normal, σ => aoo C all σ (exec C Q k .normal) o
  | .ol o ns all :: k, .normal, σ => aol C all ns σ (exec C Q k .normal) o
  | .rounds L n c :: k, .normal, σ => arounds L (aco C c) (exec C Q k) n σ
  | .inBlock id :: k, .exit i, σ => if i = id then exec C Q k .normal σ else exec C Q k (.exit i) σ
  | _ :: k, e, σ => exec C Q k e σ

end Go.Proofs.Ytjfnmlheehbojaa.VA
