/- The abstract machine: values of Go as pure trees, states, and the weakest precondition of code over them. Nothing of the program is named here. Lemmas on states and on what values are in memory. How a state of the abstract machine stands to a frame and a world. How a state of the abstract machine is kept when the world turns. Variables, rows and what is laid behind a row. New rows, and what is laid behind a row. What the operands of an operation are in memory. Operations on temporaries, variables and elements. Reading and writing memory. -/
import Derived.WalkKit
import Derived.OrdersHeld
import Derived.RangeFuncRecord
set_option linter.unusedSimpArgs false
set_option linter.unusedVariables false
section
namespace Go.Proofs.Ytmngjlgeojbghaa.VA

/-- Where an owned slice may stand: a temporary, a cell of a variable in memory, a part of a tuple; 'box': the variable itself. -/
inductive Loc where
  | tmp (t : Nat)
  | cell (k j : Nat)
  | comp (t j : Nat)
  | box (k : Nat)
  deriving DecidableEq

/-- Cells that never change any more. -/
abbrev Imm := Nat → Nat → Option Value

/-- Values. 'sl': a slice whose cells never change any more (true: its block is of the call's own making). 'own': a slice that one place alone holds. 'ref': what an owning place holds, seen from elsewhere. 'var': the address of a cell of a variable. 'elt': the address of a cell of a slice's element. -/
inductive AV where
  | bot
  | undef
  | bool (b : Bool)
  | int (k : IntKind) (n : Int)
  | str (s : List UInt8)
  | fn (f : FuncId)
  | nilf
  | agg (cs : List AV)
  | tup (vs : List AV)
  | sl (fr : Bool) (sz : Nat) (es : List AV)
  | own (sh : Bool) (sz : Nat) (es : List AV)
  | ref (l : Loc)
  | var (k off : Nat)
  | elt (x : AV) (i off : Nat)
  | ext (p : Imm → Value → Prop)
  | hd (b : Bool) (x : AV) (p : Imm → Value → Prop)

/-- What is known of a type. -/
inductive TK where
  | int (k : IntKind)
  | bool
  | str
  | slice (e : TypeId) (esz ebytes : Nat)
  | arr (n : Nat) (e : TypeId) (esz : Nat)
  | struct (fs : List (Nat × Nat × TypeId))
  | func
  | other
structure TI where
  size : Nat
  zero : List AV
  kind : TK
def TK.isAgg : TK → Bool
  | .arr .. | .struct _ => true
  | _ => false
def TK.known : TK → Bool
  | .other => false
  | _ => true

def look {α : Type} : List (Nat × α) → Nat → Option α
  | [], _ => none
  | (j, x) :: r, k => if k = j then some x else look r k
def ins {α : Type} (k : Nat) (x : α) : List (Nat × α) → List (Nat × α)
  | [] => [(k, x)]
  | (j, y) :: r => if k < j then (k, x) :: (j, y) :: r else if k = j then (k, x) :: r else (j, y) :: ins k x r
/-- What meets p is forgotten. -/
def strike (p : AV → Bool) : List (Nat × AV) → List (Nat × AV)
  | [] => []
  | (j, y) :: r => (j, if p y = true then .bot else y) :: strike p r
def AV.isBot : AV → Bool
  | .bot => true
  | _ => false
/-- Only these temporaries stay. -/
def consIf {α : Type} (b : Bool) (x : α) (l : List α) : List α :=
  match b with
  | true => x :: l
  | false => l
def keepL : List Nat → List (Nat × AV) → List (Nat × AV)
  | _, [] => []
  | ks, (j, y) :: r => consIf (ks.contains j) (j, y) (keepL ks r)

/-- Cells put by: K knows them; L: which blocks a marked row of it may stand in; B: the blocks that are its own. -/
structure Stash where
  K : Imm
  L : Nat → Prop
  B : Nat → Prop
structure ASt where
  tmps : List (Nat × AV)
  vars : List (Nat × List AV)
  st : List Stash := []

def AV.compAt (j : Nat) : Option AV → Option AV
  | some (.tup vs) => vs[j]?
  | _ => none
def cellAt (j : Nat) : Option (List AV) → Option AV
  | some cs => cs[j]?
  | none => none
def ASt.at (σ : ASt) : Loc → Option AV
  | .tmp t => look σ.tmps t
  | .cell k j => cellAt j (look σ.vars k)
  | .comp t j => AV.compAt j (look σ.tmps t)
  | .box _ => none

/-- Does a value lean on the place l? -/
def AV.leans (l : Loc) : AV → Bool
  | .ref l' => decide (l' = l)
  | .elt (.ref l') _ _ => decide (l' = l)
  | _ => false
/-- Does a value lean on the variable k? -/
def AV.leansVar (k : Nat) : AV → Bool
  | .var k' _ => Nat.beq k' k
  | .ref (.cell k' _) => Nat.beq k' k
  | .elt (.ref (.cell k' _)) _ _ => Nat.beq k' k
  | _ => false

/-- The cells of a value. -/
def AV.flat : AV → List AV
  | .agg cs => cs
  | v => [v]
/-- An owned slice as one that never changes any more; what owned it bears the mark. -/
def AV.frz : AV → AV
  | .own _ sz es => .sl true sz es
  | v => v
def AV.mark : AV → AV
  | .own _ sz es => .own true sz es
  | v => v

/-- A constant, at a type. -/
def AV.nilOf : TK → AV
  | .slice _ esz _ => .own false esz []
  | _ => .bot
def nilP : Imm → Value → Prop := fun _ v => v = .slice none 0 0
def AV.constC : Value → Option AV
  | .bool b => some (.bool b)
  | .int k n => some (.int k n)
  | .string s => some (.str s.data.toList)
  | .nilFunc => some .nilf
  | .slice none 0 0 => some (.ext nilP)
  | _ => none
def AV.constG : Option AV → Option (List AV) → Option (List AV)
  | some x, some xs => some (x :: xs)
  | _, _ => none
def AV.constCs : List Value → Option (List AV)
  | [] => some []
  | v :: vs => AV.constG (AV.constC v) (AV.constCs vs)
def AV.constA : Option (List AV) → AV
  | some cs => .agg cs
  | none => .bot
def AV.const (t : TI) : Value → AV
  | .bool b => .bool b
  | .int k n => .int k n
  | .string s => .str s.data.toList
  | .nilFunc => .nilf
  | .slice none 0 0 => AV.nilOf t.kind
  | .agg vs => AV.constA (AV.constCs vs.toList)
  | _ => .bot

/-- The temporary t holds v (no owned slice). -/
def ASt.put (σ : ASt) (t : Nat) (v : AV) : ASt := { σ with tmps := ins t v σ.tmps }
/-- The temporary t owns v. -/
def ASt.putOwn (σ : ASt) (t : Nat) (v : AV) : ASt := { σ with tmps := ins t v (strike (AV.leans (.tmp t)) σ.tmps) }
/-- A cell of a variable holds v. -/
def ASt.setCellO (σ : ASt) (k j : Nat) (v : AV) : Option (List AV) → ASt
  | some cs => { σ with vars := ins k (cs.set j v) σ.vars }
  | none => σ
def ASt.setCell (σ : ASt) (k j : Nat) (v : AV) : ASt := σ.setCellO k j v (look σ.vars k)
def ASt.dropComp (σ : ASt) (t j : Nat) : Option AV → ASt
  | some (.tup vs) => { σ with tmps := ins t (.tup (vs.set j .bot)) σ.tmps }
  | _ => σ
/-- What stood at a place stands there no more. -/
def ASt.drop (σ : ASt) : Loc → ASt
  | .tmp t => σ.put t .bot
  | .cell k j => σ.setCell k j .bot
  | .comp t j => σ.dropComp t j (look σ.tmps t)
  | .box _ => σ
/-- A place is given another owned slice, or the same one with the mark. -/
def ASt.turn (σ : ASt) (l : Loc) (v : AV) : ASt :=
  match l with
  | .tmp t => σ.put t v
  | .cell k j => σ.setCell k j v
  | _ => σ

structure Cfg where
  P : Program
  ti : TypeId → TI
  n : Nat
  live : List Nat
  ownp : FuncId → List Nat
  fix : List Nat := []
  inr : Bool := false
  spc : FuncId → Bool := fun _ => false
  spl : FuncId → Bool := fun _ => false
/-- May a temporary be written? -/
def Cfg.may (C : Cfg) (t : Nat) : Bool := decide (t < C.n) && !C.fix.contains t

/-- An operand: an owned slice is seen from elsewhere. -/
def AV.seen (i : Nat) : Option AV → AV
  | some (.own _ _ _) => .ref (.tmp i)
  | some (.tup _) => .bot
  | some (.hd true x _) => x
  | some v => v
  | none => .bot
def ASt.rd (C : Cfg) (σ : ASt) (t : TypeId) : Operand → AV
  | .tmp i => AV.seen i (look σ.tmps i)
  | .const v => AV.const (C.ti t) v
  | .func f => .fn f
  | .global _ => .bot

/-- The elements of a slice. -/
def AV.elemsOf : AV → Option (Nat × List AV)
  | .sl _ sz es => some (sz, es)
  | .own _ sz es => some (sz, es)
  | _ => none
def AV.elemsO : Option AV → Option (Nat × List AV)
  | some (.own _ sz es) => some (sz, es)
  | _ => none
def ASt.cont (σ : ASt) : AV → Option (Nat × List AV)
  | .ref l => AV.elemsO (σ.at l)
  | v => v.elemsOf

def AV.isImm : AV → Bool
  | .bot | .undef | .tup _ | .own .. | .ref _ | .var .. | .elt .. => false
  | _ => true
/-- A value as an immutable one. -/
def Loc.plain : Loc → Bool
  | .tmp _ | .cell _ _ => true
  | _ => false
def ASt.immRef (σ : ASt) (l : Loc) : Option AV → Option (AV × ASt)
  | some (.own _ sz es) => if l.plain = true then some (.sl true sz es, σ.turn l (.own true sz es)) else none
  | _ => none
def ASt.imm (σ : ASt) : AV → Option (AV × ASt)
  | .own _ sz [] => some (.sl true sz [], σ)
  | .ref l => σ.immRef l (σ.at l)
  | v => if v.isImm = true then some (v, σ) else none

/-- The cells of a variable are marked: all that is owned there is shared. -/
def markFrom (cs : List AV) (off n : Nat) : List AV := cs.take off ++ ((cs.drop off).take n).map AV.mark ++ cs.drop (off + n)
def putAt (cs : List AV) (off : Nat) (new : List AV) : List AV := cs.take off ++ new ++ cs.drop (off + new.length)

/-- What an operation comes to. -/
inductive R where
  | ok (σ : ASt)
  | fail
  | need (p : Prop) (r : R)
  | split (b : Bool) (r s : R)
  | both (p : Prop) (r s : R)
  | call (f : FuncId) (ars : List AV) (d : Option Nat) (σ : ASt)
  | special (f : FuncId) (ars : List AV) (d : Option Nat) (σ : ASt)

def R.chk (b : Bool) (r : R) : R := if b = true then r else .fail

/-- The result of an operation goes to its temporary. -/
def ASt.wrTo (σ : ASt) (t : Nat) : AV → R
  | .own sh sz es => .ok (σ.putOwn t (.own sh sz es))
  | .tup _ => .fail
  | v => .ok (σ.put t v)
def ASt.wr (C : Cfg) (σ : ASt) (d : Option Nat) (v : AV) : R :=
  match d with
  | none => .ok σ
  | some t => .chk (C.may t && (look σ.vars t).isNone) (σ.wrTo t v)

/-- Whole numbers. -/
def binInt (op : BinOp) (k : IntKind) (x y : Int) : Option AV :=
  match op with
  | .add => some (.int k (k.wrap (x + y)))
  | .sub => some (.int k (k.wrap (x - y)))
  | .mul => some (.int k (k.wrap (x * y)))
  | .and => some (.int k (k.wrap (BitVec.ofInt k.bits x &&& BitVec.ofInt k.bits y).toNat))
  | .or => some (.int k (k.wrap (BitVec.ofInt k.bits x ||| BitVec.ofInt k.bits y).toNat))
  | .xor => some (.int k (k.wrap (BitVec.ofInt k.bits x ^^^ BitVec.ofInt k.bits y).toNat))
  | .eql => some (.bool (x == y))
  | .neq => some (.bool (x != y))
  | .lss => some (.bool (decide (x < y)))
  | .leq => some (.bool (decide (x ≤ y)))
  | .gtr => some (.bool (decide (x > y)))
  | .geq => some (.bool (decide (x ≥ y)))
  | _ => none
def AV.eqInts : List AV → List AV → Option Bool
  | [.int j a], [.int k b] => if j = k then some (a == b) else none
  | .int j a :: xs, .int k b :: ys => if j = k then (AV.eqInts xs ys).map fun r => (a == b) && r else none
  | _, _ => none

def ASt.wrO (C : Cfg) (σ : ASt) (d : Option Nat) : Option AV → R
  | some v => σ.wr C d v
  | none => .fail

/-- An operation on two values. -/
def binAgg (C : Cfg) (σ : ASt) (d : Option Nat) (op : BinOp) : Option Bool → R
  | some r => match op with
    | .eql => σ.wr C d (.bool r)
    | .neq => σ.wr C d (.bool !r)
    | _ => .fail
  | none => .fail
def isBoolK : TK → Bool
  | .bool => true
  | _ => false
def isIntK : TK → Bool
  | .int _ => true
  | _ => false
def isSliceK : TK → Bool
  | .slice _ _ _ => true
  | _ => false
def isFuncK : TK → Bool
  | .func => true
  | _ => false
def isInts (C : Cfg) (n : Nat) : TK → Bool
  | .arr m e 1 => decide (m = n) && isIntK (C.ti e).kind
  | _ => false
def binR (C : Cfg) (σ : ASt) (d : Option Nat) (T : TypeId) : BinOp → AV → AV → R
  | .shl, .int k a, .int _ b => .need (0 ≤ b) (σ.wr C d (.int k (k.wrap (a * 2 ^ (min b.toNat k.bits)))))
  | .shr, .int k a, .int _ b => .need (0 ≤ b) (σ.wr C d (.int k (a.fdiv (2 ^ (min b.toNat k.bits)))))
  | .quo, .int k a, .int k' b => .chk (decide (k = k')) (.need (b ≠ 0) (σ.wr C d (.int k (k.wrap (a.tdiv b)))))
  | .rem, .int k a, .int k' b => .chk (decide (k = k')) (.need (b ≠ 0) (σ.wr C d (.int k (a.tmod b))))
  | op, .int k a, .int k' b => .chk (decide (k = k')) (σ.wrO C d (binInt op k a b))
  | .add, .str a, .str b => .need (a.length + b.length ≤ 9223372036854775807) (σ.wr C d (.str (a ++ b)))
  | .eql, .str a, .str b => σ.wr C d (.bool (a == b))
  | .neq, .str a, .str b => σ.wr C d (.bool !(a == b))
  | .lss, .str a, .str b => σ.wr C d (.bool (Op.bytesLess a b))
  | .leq, .str a, .str b => σ.wr C d (.bool (Op.bytesLess a b || a == b))
  | .gtr, .str a, .str b => σ.wr C d (.bool !(Op.bytesLess a b || a == b))
  | .geq, .str a, .str b => σ.wr C d (.bool !(Op.bytesLess a b))
  | .eql, .bool a, .bool b => .chk (isBoolK (C.ti T).kind) (σ.wr C d (.bool (a == b)))
  | .neq, .bool a, .bool b => .chk (isBoolK (C.ti T).kind) (σ.wr C d (.bool !(a == b)))
  | .eql, .sl _ _ es, .own _ _ [] => .chk (isSliceK (C.ti T).kind) (.both (es = []) (σ.wr C d (.bool true)) (σ.wr C d (.bool false)))
  | .eql, .ext p, .nilf => .chk (isFuncK (C.ti T).kind) (.need (∀ J v, p J v → ∃ f cs ls, v = .func f cs ls) (σ.wr C d (.bool false)))
  | op, .agg xs, .agg ys => .chk (isInts C xs.length (C.ti T).kind) (binAgg C σ d op (AV.eqInts xs ys))
  | _, _, _ => .fail

def unVal (op : UnOp) (x : AV) : Option AV :=
  match op, x with
  | .not, .bool b => some (.bool !b)
  | .neg, .int k n => some (.int k (k.wrap (0 - n)))
  | .xor, .int k n => some (.int k (k.wrap (BitVec.ofInt k.bits (if k.signed then -1 else k.max) ^^^ BitVec.ofInt k.bits n).toNat))
  | _, _ => none

def u8 (b : UInt8) : AV := .int .u8 (b.toNat : Int)

/-- What a value is in memory, where the cells of I never change; M: which blocks are of the call's own making. -/
inductive AR (M : Nat → Prop) (I : Imm) : AV → Value → Prop
  | bool (b : Bool) : AR M I (.bool b) (.bool b)
  | int (k : IntKind) (n : Int) : AR M I (.int k n) (.int k n)
  | str (s : List UInt8) : AR M I (.str s) (.string ⟨s.toArray⟩)
  | fn (f : FuncId) : AR M I (.fn f) (.func (.func f) #[] #[])
  | nilf : AR M I .nilf .nilFunc
  | agg (cs : List AV) (vs : Array Value) (hl : cs.length = vs.size) (h1 : ∀ (j : Nat) v, vs[j]? = some v → v.oneCell' = true)
      (h : ∀ (j : Nat) c v, cs[j]? = some c → vs[j]? = some v → AR M I c v) : AR M I (.agg cs) (.agg vs)
  | slnil (fr : Bool) (sz : Nat) (base : Option Addr) (cap : Nat) : AR M I (.sl fr sz []) (.slice base 0 cap)
  | sl (fr : Bool) (sz : Nat) (es : List AV) (b o n cap : Nat) (hn : n = es.length) (hc : n ≤ cap) (vs : Nat → Value)
      (hv : ∀ (i : Nat) e, es[i]? = some e → AR M I e (vs i)) (hz : ∀ i, i < es.length → (vs i).cells.size = sz)
      (hI : ∀ (i j : Nat) c, i < es.length → (vs i).cells[j]? = some c → I b (o + i * sz + j) = some c) (hM : fr = true → M b) : AR M I (.sl fr sz es) (.slice (some ⟨b, o, none⟩) n cap)
  | ext (p : Imm → Value → Prop) (J : Imm) (v : Value) (hJ : ∀ b o u, J b o = some u → I b o = some u) (h1 : v.oneCell' = true) (hp : p J v) : AR M I (.ext p) v
  | hd (b : Bool) (x : AV) (p : Imm → Value → Prop) (J : Imm) (v : Value) (hx : AR M I x v) (hi : x.isImm = true) (hJ : ∀ b o u, J b o = some u → I b o = some u) (h1 : v.oneCell' = true) (hp : p J v) : AR M I (.hd b x p) v

def Imm.ok (I : Imm) (w : World) : Prop := ∀ b o v, I b o = some v → w.cell? ⟨b, o, none⟩ = some v
def Imm.le (I J : Imm) : Prop := ∀ b o v, I b o = some v → J b o = some v

/-- A row of cells that one place alone holds. -/
structure Row (M : Nat → Prop) (I : Imm) (w : World) (g : Nat) (sh : Bool) (sz : Nat) (es : List AV) (cap : Nat) : Prop where
  le : es.length ≤ cap
  capm : cap ≤ maxLen
  cells : ∀ o, o < cap * sz → ∃ v, w.cell? ⟨g, o, none⟩ = some v ∧ w.frozen? ⟨g, o, none⟩ = false
  elems : ∀ (i : Nat) e, es[i]? = some e → ∃ v, AR M I e v ∧ v.cells.size = sz ∧ ∀ (j : Nat) c, v.cells[j]? = some c → w.cell? ⟨g, i * sz + j, none⟩ = some c
  immc : sh = true → ∀ o v, o < es.length * sz → w.cell? ⟨g, o, none⟩ = some v → I g o = some v
  immn : ∀ o, (sh = true → es.length * sz ≤ o) → I g o = none
  frz : 1 < sz → ∀ o, w.frozen? ⟨g, o, none⟩ = false

/-- A value that is handed over, and the rows that go with it. -/
def VRep (M : Nat → Prop) (I : Imm) (w : World) : AV → Value → List Nat → Prop
  | .own sh sz es, v, gs => (v = .slice none 0 0 ∧ es = [] ∧ gs = []) ∨ ∃ g cap, v = .slice (some ⟨g, 0, none⟩) es.length cap ∧ gs = [g] ∧ g < w.heap.size ∧ Row M I w g sh sz es cap
  | a, v, gs => AR M I a v ∧ gs = []
def VReps (M : Nat → Prop) (I : Imm) (w : World) : List AV → List Value → List Nat → Prop
  | [], [], gs => gs = []
  | a :: ars, v :: vs, gs => ∃ g1 g2, gs = g1 ++ g2 ∧ VRep M I w a v g1 ∧ VReps M I w ars vs g2
  | _, _, _ => False
def RRep (M : Nat → Prop) (I : Imm) (w : World) : AV → Value → List Nat → Prop
  | .tup rs, v, gs => ∃ vs, v = .tuple vs.toArray ∧ VReps M I w rs vs gs
  | a, v, gs => VRep M I w a v gs

/-- What a call leaves alone. -/
structure Fr (w w' : World) (mine : Nat → Prop) : Prop where
  os : w'.os = w.os
  tape : w'.tape = w.tape
  output : w'.output = w.output
  size : w.heap.size ≤ w'.heap.size
  block : ∀ k, k < w.heap.size → ¬ mine k → w'.heap[k]? = w.heap[k]?
  new : ∀ k o u, w'.cell? ⟨k, o, none⟩ = some u → ((∃ u', w.cell? ⟨k, o, none⟩ = some u') ∧ w'.frozen? ⟨k, o, none⟩ = w.frozen? ⟨k, o, none⟩) ∨ (w.heap.size ≤ k ∧ w'.frozen? ⟨k, o, none⟩ = false)

/-- A function's contract over values. -/
structure Contract (P : Program) (f : FuncId) (args : List AV) (res : AV) : Prop where
  enters : ∃ fn c, P.funcs[f]? = some fn ∧ (fn.name == "runtime.NumGoroutine") = false ∧ fn.body = some c
  calls : ∀ (I : Imm) (w : World) (vs : List Value) (gs : List Nat), I.ok w → VReps (fun _ => True) I w args vs gs → gs.Nodup →
    Calls P f vs.toArray w fun e w' => ∃ v I' gs', e = .returned v ∧ Imm.le I I' ∧ Imm.ok I' w' ∧ Fr w w' (· ∈ gs) ∧
      (∀ b o u, I' b o = some u → I b o = some u ∨ w.heap.size ≤ b ∨ b ∈ gs) ∧ RRep (fun b => w.heap.size ≤ b ∨ b ∈ gs) I' w' res v gs' ∧ gs'.Nodup ∧
      ∀ g, g ∈ gs' → (w.heap.size ≤ g ∨ g ∈ gs) ∧ g < w'.heap.size

/-- A function's contract over values of any making: what is marked stays so. -/
structure Through (P : Program) (f : FuncId) (args : List AV) (res : AV) : Prop where
  enters : ∃ fn c, P.funcs[f]? = some fn ∧ (fn.name == "runtime.NumGoroutine") = false ∧ fn.body = some c
  calls : ∀ (M : Nat → Prop) (I : Imm) (w : World) (vs : List Value) (gs : List Nat), I.ok w → VReps M I w args vs gs → gs.Nodup →
    Calls P f vs.toArray w fun e w' => ∃ v I' gs', e = .returned v ∧ Imm.le I I' ∧ Imm.ok I' w' ∧ Fr w w' (· ∈ gs) ∧
      (∀ b o u, I' b o = some u → I b o = some u ∨ w.heap.size ≤ b ∨ b ∈ gs) ∧ RRep (fun b => M b ∨ w.heap.size ≤ b ∨ b ∈ gs) I' w' res v gs' ∧ gs'.Nodup ∧
      ∀ g, g ∈ gs' → (w.heap.size ≤ g ∨ g ∈ gs) ∧ g < w'.heap.size

/-- A contract with a colouring of new blocks that the call makes up. -/
structure Ghost (P : Program) (f : FuncId) (args : List AV) (res : (Nat → Option Nat) → AV) : Prop where
  enters : ∃ fn c, P.funcs[f]? = some fn ∧ (fn.name == "runtime.NumGoroutine") = false ∧ fn.body = some c
  calls : ∀ (I : Imm) (w : World) (vs : List Value) (gs : List Nat), I.ok w → VReps (fun _ => True) I w args vs gs → gs.Nodup →
    Calls P f vs.toArray w fun e w' => ∃ col v I' gs', e = .returned v ∧ Imm.le I I' ∧ Imm.ok I' w' ∧ Fr w w' (· ∈ gs) ∧
      (∀ b o u, I' b o = some u → I b o = some u ∨ w.heap.size ≤ b ∨ b ∈ gs) ∧ RRep (fun b => w.heap.size ≤ b ∨ b ∈ gs) I' w' (res col) v gs' ∧ gs'.Nodup ∧
      ∀ g, g ∈ gs' → (w.heap.size ≤ g ∨ g ∈ gs) ∧ g < w'.heap.size
/-- Every row bears the mark. -/
inductive Marked : AV → Prop
  | bool (b : Bool) : Marked (.bool b)
  | int (k : IntKind) (n : Int) : Marked (.int k n)
  | str (s : List UInt8) : Marked (.str s)
  | agg (cs : List AV) (h : ∀ c, c ∈ cs → Marked c) : Marked (.agg cs)
  | sl (sz : Nat) (es : List AV) (h : ∀ c, c ∈ es → Marked c) : Marked (.sl true sz es)
/-- A contract of three results, of which the first two are of new memory and share nothing. -/
structure Contract2 (P : Program) (f : FuncId) (args : List AV) (x y z : AV) : Prop where
  mx : Marked x
  my : Marked y
  enters : ∃ fn c, P.funcs[f]? = some fn ∧ (fn.name == "runtime.NumGoroutine") = false ∧ fn.body = some c
  calls : ∀ (I : Imm) (w : World) (vs : List Value), I.ok w → VReps (fun _ => True) I w args vs [] →
    Calls P f vs.toArray w fun e w' => ∃ v1 v2 v3 I' M1 M2, e = .returned (.tuple #[v1, v2, v3]) ∧ Imm.le I I' ∧ Imm.ok I' w' ∧ Fr w w' (fun _ => False) ∧
      (∀ b o u, I' b o = some u → I b o = some u ∨ w.heap.size ≤ b) ∧ (∀ b, M1 b → w.heap.size ≤ b) ∧ (∀ b, M2 b → w.heap.size ≤ b) ∧ (∀ b, M1 b → ¬ M2 b) ∧ AR M1 I' x v1 ∧ AR M2 I' y v2 ∧ AR (fun _ => True) I' z v3

/-- What a function without a Go body tells: it only looks at its arguments. -/
def Extern (P : Program) (f : FuncId) (args : List AV) (res : AV) : Prop :=
  ∀ (I : Imm) (w : World) (vs : List Value) (gs : List Nat), I.ok w → VReps (fun _ => True) I w args vs gs →
    ∃ v, (callFunc f vs.toArray).run P w = .ok (.value v) w ∧ RRep (fun _ => False) I w res v []

/-- The same value with fewer marks of the call's own making. -/
inductive Dull : AV → AV → Prop
  | refl (a : AV) : Dull a a
  | agg (xs ys : List AV) (hl : xs.length = ys.length) (h : ∀ (j : Nat) x y, xs[j]? = some x → ys[j]? = some y → Dull x y) : Dull (.agg xs) (.agg ys)
  | sl (fr : Bool) (sz : Nat) (xs ys : List AV) (hl : xs.length = ys.length) (h : ∀ (j : Nat) x y, xs[j]? = some x → ys[j]? = some y → Dull x y) : Dull (.sl fr sz xs) (.sl false sz ys)
  | slk (fr : Bool) (sz : Nat) (xs ys : List AV) (hl : xs.length = ys.length) (h : ∀ (j : Nat) x y, xs[j]? = some x → ys[j]? = some y → Dull x y) : Dull (.sl fr sz xs) (.sl fr sz ys)
  | nil (fr : Bool) (sz : Nat) : Dull (.ext nilP) (.sl fr sz [])
  | hd (b : Bool) (x y : AV) (p : Imm → Value → Prop) (hi : x.isImm = true) (h : Dull x y) : Dull (.hd b x p) y
inductive Dulls : List AV → List AV → Prop
  | nil : Dulls [] []
  | cons {x y : AV} {xs ys : List AV} : Dull x y → Dulls xs ys → Dulls (x :: xs) (y :: ys)
/-- No mark of the call's own making at all. -/
inductive Plain : AV → Prop
  | bool (b : Bool) : Plain (.bool b)
  | int (k : IntKind) (n : Int) : Plain (.int k n)
  | str (s : List UInt8) : Plain (.str s)
  | fn (f : FuncId) : Plain (.fn f)
  | nilf : Plain .nilf
  | ext (p : Imm → Value → Prop) : Plain (.ext p)
  | agg (cs : List AV) (h : ∀ c, c ∈ cs → Plain c) : Plain (.agg cs)
  | sl (sz : Nat) (es : List AV) (h : ∀ c, c ∈ es → Plain c) : Plain (.sl false sz es)
  | own (sh : Bool) (sz : Nat) (es : List AV) (h : ∀ c, c ∈ es → Plain c) : Plain (.own sh sz es)

/-- A cell of a zero value. -/
def AV.frz0 : AV → AV
  | .own _ _ _ => .ext nilP
  | v => v.frz
/-- The zero of an element's type. -/
def TI.zeroVal (t : TI) : AV := if t.kind.isAgg = true then .agg (t.zero.map AV.frz) else (t.zero.headD .bot).frz

/-- The parts of a struct or an array that is built: where a part stands, how many cells it has, its type. -/
def placeOf (C : Cfg) (T : TypeId) (i : Nat) : Option (Nat × Nat × TypeId) :=
  match (C.ti T).kind with
  | .struct fs => fs[i]?
  | .arr n e esz => if i < n then some (i * esz, esz, e) else none
  | _ => none
abbrev Parts := Option (List AV × ASt)
def partIn (cs : List AV) (off size : Nat) : Option (AV × ASt) → Parts
  | some (v, σ) => if decide (v.flat.length = size) && decide (off + size ≤ cs.length) then some (putAt cs off v.flat, σ) else none
  | none => none
def partAt (C : Cfg) (σ : ASt) (x : Operand) (cs : List AV) : Option (Nat × Nat × TypeId) → Parts
  | some (off, size, T) => partIn cs off size (σ.imm (σ.rd C T x))
  | none => none
def buildGo (C : Cfg) (T : TypeId) : List (Nat × Operand) → Parts → Parts
  | [], q => q
  | _ :: _, none => none
  | (i, x) :: r, some (cs, σ) => buildGo C T r (partAt C σ x cs (placeOf C T i))
def buildEnd (C : Cfg) (d : Option Nat) : Parts → R
  | some (cs, σ) => σ.wr C d (.agg cs)
  | none => .fail
def elemIn (es : List AV) (i size : Nat) : Option (AV × ASt) → Parts
  | some (v, σ) => if decide (v.flat.length = size) && decide (i < es.length) then some (es.set i v, σ) else none
  | none => none
def elemsGo (C : Cfg) (T : TypeId) (size : Nat) : List (Nat × Operand) → Parts → Parts
  | [], q => q
  | _ :: _, none => none
  | (i, x) :: r, some (es, σ) => elemsGo C T size r (elemIn es i size (σ.imm (σ.rd C T x)))
def elemsEnd (C : Cfg) (d : Option Nat) (esz : Nat) : Parts → R
  | some (es, σ) => σ.wr C d (.own false esz es)
  | none => .fail

def bsR (C : Cfg) (σ : ASt) (d : Option Nat) (n : Nat) (parts : List (Nat × Operand)) : TK → R
  | .slice e esz _ => .chk ((C.ti e).kind.known && decide (n * esz ≤ 16777216)) (elemsEnd C d esz (elemsGo C e esz parts (some (List.replicate n (C.ti e).zeroVal, σ))))
  | _ => .fail
/-- The arguments of a call; those that are handed over: by their places. -/
def argOwnRef (σ : ASt) (l : Loc) (acc : List AV) : Option AV → Parts
  | some (.own sh sz es) => some (acc ++ [.own sh sz es], σ.drop l)
  | _ => none
def argOwn (σ : ASt) (acc : List AV) : AV → Parts
  | .own _ sz [] => some (acc ++ [.own false sz []], σ)
  | .ref l => argOwnRef σ l acc (σ.at l)
  | _ => none
def argImm (acc : List AV) : Option (AV × ASt) → Parts
  | some (v, σ) => some (acc ++ [v], σ)
  | none => none
def argsGo (C : Cfg) (own : List Nat) : Nat → List Operand → List TypeId → Parts → Parts
  | _, [], _, q => q
  | _, _ :: _, _, none => none
  | i, x :: xs, ts, some (acc, σ) => argsGo C own (i + 1) xs ts.tail (if own.contains i = true then argOwn σ acc (σ.rd C (ts.headD 0) x) else argImm acc (σ.imm (σ.rd C (ts.headD 0) x)))
def callEnd (b : Bool) (f : FuncId) (d : Option Nat) : Parts → R
  | some (ars, σ) => match b with
    | true => .special f ars d σ
    | false => .call f ars d σ
  | none => .fail

/-- A call's result. -/
def AV.leansComp (t : Nat) : AV → Bool
  | .ref (.comp t' _) => Nat.beq t' t
  | .elt (.ref (.comp t' _)) _ _ => Nat.beq t' t
  | _ => false
def ASt.wrResTo (σ : ASt) (t : Nat) : AV → R
  | .own sh sz es => .ok (σ.putOwn t (.own sh sz es))
  | .tup vs => .ok { σ with tmps := ins t (.tup vs) (strike (AV.leansComp t) σ.tmps) }
  | v => .chk v.isImm (.ok (σ.put t v))
def ASt.wrRes (C : Cfg) (σ : ASt) (d : Option Nat) (v : AV) : R :=
  match d with
  | none => .ok σ
  | some t => .chk (C.may t && (look σ.vars t).isNone) (σ.wrResTo t v)

/-- A slice's own place is given up: what it held goes to the temporary t. -/
def ASt.takeO (C : Cfg) (σ : ASt) (d : Option Nat) (l : Loc) : Option AV → R
  | some (.own sh sz es) => (σ.drop l).wr C d (.own sh sz es)
  | _ => .fail
def ASt.take (C : Cfg) (σ : ASt) (d : Option Nat) (l : Loc) : R := σ.takeO C d l (σ.at l)

def asU8 : List AV → Option (List UInt8)
  | [] => some []
  | .int .u8 n :: r => (asU8 r).map fun l => UInt8.ofNat n.toNat :: l
  | _ :: _ => none

def assignR (C : Cfg) (σ : ASt) (d : Option Nat) : AV → R
  | .ref l => σ.take C d l
  | v => σ.wr C d v
def pickR (C : Cfg) (σ : ASt) (d : Option Nat) : AV → AV → AV → R
  | .bool t, a, b => .split t (σ.wr C d a) (σ.wr C d b)
  | _, _, _ => .fail
def ASt.newVar (σ : ASt) (d : Nat) (cs : List AV) : ASt := { σ with tmps := ins d (.var d 0) (strike (AV.leansVar d) σ.tmps), vars := ins d cs σ.vars }
def allocR (C : Cfg) (σ : ASt) (T : TypeId) : Option Nat → R
  | some d => .chk (C.may d && (C.ti T).kind.known) (.ok (σ.newVar d (C.ti T).zero))
  | none => .fail
def boxR (C : Cfg) (T : TypeId) : Option Nat → Option (AV × ASt) → R
  | some d, some (v, σ) => .chk (C.may d) (.ok (σ.newVar d v.flat))
  | _, _ => .fail

/-- A value read out of a variable or an element. -/
def loadOne (C : Cfg) (σ : ASt) (d : Option Nat) (k off : Nat) : Option AV → R
  | some (.own _ _ _) => σ.wr C d (.ref (.cell k off))
  | some v => .chk v.isImm (σ.wr C d v)
  | none => .fail
def loadVar (C : Cfg) (σ : ASt) (d : Option Nat) (T : TypeId) (k off : Nat) : Option (List AV) → R
  | some cs => if (C.ti T).kind.isAgg = true then
      .chk (decide (off + (C.ti T).size ≤ cs.length) && ((cs.drop off).take (C.ti T).size).all (fun c => c.frz.isImm)) (ASt.wr C { σ with vars := ins k (markFrom cs off (C.ti T).size) σ.vars } d (.agg (((cs.drop off).take (C.ti T).size).map AV.frz)))
    else loadOne C σ d k off cs[off]?
  | none => .fail
def wrImm (C : Cfg) (σ : ASt) (d : Option Nat) : Option AV → R
  | some v => .chk v.isImm (σ.wr C d v)
  | none => .fail
def aggPart (off n : Nat) : AV → Option AV
  | .agg cs => if off + n ≤ cs.length then some (.agg ((cs.drop off).take n)) else none
  | _ => none
def AV.isAggV : AV → Bool
  | .agg _ => true
  | _ => false
def loadElem (C : Cfg) (σ : ASt) (d : Option Nat) (T : TypeId) (off sz : Nat) : Option AV → R
  | some e => if (C.ti T).kind.isAgg = true then
      (if decide (off = 0) && decide ((C.ti T).size = sz) then .chk e.isAggV (wrImm C σ d (some e)) else wrImm C σ d (aggPart off (C.ti T).size e))
    else wrImm C σ d e.flat[off]?
  | none => .fail
def loadElt (C : Cfg) (σ : ASt) (d : Option Nat) (T : TypeId) (i off : Nat) : Option (Nat × List AV) → R
  | some (sz, es) => loadElem C σ d T off sz es[i]?
  | none => .fail
def loadR (C : Cfg) (σ : ASt) (d : Option Nat) (T : TypeId) : AV → R
  | .var k off => .chk (C.ti T).kind.known (loadVar C σ d T k off (look σ.vars k))
  | .elt x i off => .chk (C.ti T).kind.known (loadElt C σ d T i off (σ.cont x))
  | _ => .fail

/-- A value laid into a variable or an element. -/
def storeOwn (C : Cfg) (σ : ASt) (k off : Nat) (sh : Bool) (sz : Nat) (es : List AV) : R :=
  .ok (ASt.setCell { σ with tmps := strike (AV.leans (.cell k off)) σ.tmps } k off (.own sh sz es))
/-- What leaned on the temporary t leans on l. -/
def AV.redir (t : Nat) (l : Loc) : AV → AV
  | .ref (.tmp s) => if Nat.beq s t = true then .ref l else .ref (.tmp s)
  | .elt (.ref (.tmp s)) i o => if Nat.beq s t = true then .elt (.ref l) i o else .elt (.ref (.tmp s)) i o
  | x => x
def redir (t : Nat) (l : Loc) : List (Nat × AV) → List (Nat × AV)
  | [] => []
  | (j, y) :: r => (j, if Nat.beq j t = true then .ref l else AV.redir t l y) :: redir t l r
def storeAl (C : Cfg) (σ : ASt) (k off : Nat) (sh : Bool) (sz : Nat) (es : List AV) : Loc → R
  | .tmp t => .ok (ASt.setCell { σ with tmps := redir t (.cell k off) (strike (AV.leans (.cell k off)) σ.tmps) } k off (.own sh sz es))
  | l => storeOwn C (σ.drop l) k off sh sz es
def storeRef (C : Cfg) (σ : ASt) (T : TypeId) (k off : Nat) (cs : List AV) (l : Loc) : Option AV → R
  | some (.own sh sz es) => .chk (decide (off < cs.length) && decide ((C.ti T).size = 1)) (storeAl C σ k off sh sz es l)
  | _ => .fail
def storeCells (C : Cfg) (σ : ASt) (T : TypeId) (k off : Nat) (cs : List AV) : AV → R
  | .ref l => storeRef C σ T k off cs l (σ.at l)
  | .own _ sz [] => .chk (decide (off < cs.length) && decide ((C.ti T).size = 1)) (storeOwn C σ k off false sz [])
  | v => .chk (v.isImm && (decide (v.flat.length = (C.ti T).size) && decide (off + (C.ti T).size ≤ cs.length))) (.ok { σ with vars := ins k (putAt cs off v.flat) σ.vars })
def storeVar (C : Cfg) (σ : ASt) (T : TypeId) (k off : Nat) (v : AV) : Option (List AV) → R
  | some cs => storeCells C σ T k off cs v
  | none => .fail
def storePart (C : Cfg) (σ : ASt) (T : TypeId) (l : Loc) (i off sz : Nat) (es : List AV) (v : AV) : Option AV → R
  | some e => if decide (off = 0) && decide ((C.ti T).size = sz) then .chk (decide (v.flat.length = (C.ti T).size)) (.ok (σ.turn l (.own false sz (es.set i v))))
    else match e with
      | .agg cs => .chk (decide (v.flat.length = (C.ti T).size) && decide (off + (C.ti T).size ≤ cs.length)) (.ok (σ.turn l (.own false sz (es.set i (.agg (putAt cs off v.flat))))))
      | _ => .fail
  | none => .fail
def storeRow (C : Cfg) (σ : ASt) (T : TypeId) (l : Loc) (i off : Nat) (v : AV) : Option AV → R
  | some (.own false sz es) => .chk l.plain (storePart C σ T l i off sz es v es[i]?)
  | _ => .fail
def storeElt (C : Cfg) (T : TypeId) (i off : Nat) (l : Loc) : Option (AV × ASt) → R
  | some (v, σ) => .chk v.isImm (storeRow C σ T l i off v (σ.at l))
  | none => .fail
def storeR (C : Cfg) (σ : ASt) (T : TypeId) (v : AV) : AV → R
  | .var k off => .chk (C.ti T).kind.known (storeVar C σ T k off v (look σ.vars k))
  | .elt (.ref l) i off => .chk (C.ti T).kind.known (storeElt C T i off l (σ.imm v))
  | _ => .fail

def convBytes (C : Cfg) (σ : ASt) (d : Option Nat) : Option (List UInt8) → R
  | some s => σ.wr C d (.str s)
  | none => .fail
def convCont (C : Cfg) (σ : ASt) (d : Option Nat) : Option (Nat × List AV) → R
  | some (1, es) => convBytes C σ d (asU8 es)
  | _ => .fail
def isU8 : TK → Bool
  | .int .u8 => true
  | _ => false
def convR (C : Cfg) (σ : ASt) (d : Option Nat) : TK → TK → AV → R
  | .int _, .int k, .int _ n => σ.wr C d (.int k (k.wrap n))
  | .str, .str, .str s => σ.wr C d (.str s)
  | .str, .slice e _ _, .str s => .chk (isU8 (C.ti e).kind) (.need (s.length ≤ 9223372036854775807) (σ.wr C d (.own false 1 (s.map u8))))
  | .slice e _ _, .str, v => .chk (isU8 (C.ti e).kind) (convCont C σ d (σ.cont v))
  | _, _, _ => .fail
def makeR (C : Cfg) (σ : ASt) (d : Option Nat) : TK → AV → AV → R
  | .slice e esz eb, .int .i64 n, .int .i64 m => .chk (C.ti e).kind.known (.need (n = m ∧ 0 ≤ n ∧ n.toNat * eb ≤ 140737488355328) (σ.wr C d (.own false esz (List.replicate n.toNat (C.ti e).zeroVal))))
  | _, _, _ => .fail

/-- A slice cut out of another one, or out of a text. -/
def optI (C : Cfg) (σ : ASt) (n : Nat) : Option Operand → AV
  | none => .int .i64 n
  | some q => σ.rd C 0 q
def cutSl (C : Cfg) (d : Option Nat) (σ : ASt) (fr : Bool) (sz : Nat) (es : List AV) : AV → AV → R
  | .int _ l, .int _ h => .need ((0 ≤ h ∧ h ≤ es.length) ∧ (0 ≤ l ∧ l ≤ h)) (σ.wr C d (.sl fr sz ((es.drop l.toNat).take (h.toNat - l.toNat))))
  | _, _ => .fail
def cutImm (C : Cfg) (d : Option Nat) (lo hi : Option Operand) : TK → Option (AV × ASt) → R
  | .slice _ esz _, some (.sl fr sz es, σ) => .chk (decide (esz = sz)) (cutSl C d σ fr sz es (optI C σ 0 lo) (optI C σ es.length hi))
  | _, _ => .fail
def cutStr (C : Cfg) (σ : ASt) (d : Option Nat) (s : List UInt8) : AV → AV → R
  | .int _ l, .int _ h => .need ((0 ≤ h ∧ h ≤ s.length) ∧ (0 ≤ l ∧ l ≤ h)) (σ.wr C d (.str ((s.drop l.toNat).take (h.toNat - l.toNat))))
  | _, _ => .fail
/-- A variable that is an array, given up for a slice of all of it. -/
def delV (k : Nat) : List (Nat × List AV) → List (Nat × List AV)
  | [] => []
  | (j, cs) :: r => if k = j then delV k r else (j, cs) :: delV k r
def ASt.freeVar (σ : ASt) (k : Nat) : ASt := { σ with vars := delV k σ.vars }
def cutArr (C : Cfg) (σ : ASt) (d : Option Nat) (n k : Nat) : Option (List AV) → R
  | some cs => .chk (decide (cs.length = n) && cs.all AV.isImm && cs.all (fun c => decide (c.flat.length = 1)) && decide (n ≤ 9223372036854775807)) ((σ.freeVar k).wr C d (.sl true 1 cs))
  | none => .fail
def cutR (C : Cfg) (σ : ASt) (d : Option Nat) (lo hi : Option Operand) : TK → AV → R
  | .str, .str s => cutStr C σ d s (optI C σ 0 lo) (optI C σ s.length hi)
  | .arr n _ 1, .var k 0 => .chk (lo.isNone && hi.isNone) (cutArr C σ d n k (look σ.vars k))
  | k, v => cutImm C d lo hi k (σ.imm v)

/-- A function that holds a variable, given up for it: what the variable holds never changes any more. -/
def cloP (f : FuncId) (cs : List AV) : Imm → Value → Prop := fun J v => ∃ b, v = .func (.func f) #[] #[.pointer (some ⟨b, 0, none⟩)] ∧ AR (fun _ => True) J (.sl false cs.length [.agg cs]) (.slice (some ⟨b, 0, none⟩) 1 1)
def capV (C : Cfg) (σ : ASt) (d : Option Nat) (f : FuncId) (k : Nat) : Option (List AV) → R
  | some cs => .chk (cs.all AV.isImm) ((σ.freeVar k).wr C d (.ext (cloP f cs)))
  | none => .fail
def capR (C : Cfg) (σ : ASt) (d : Option Nat) (f : FuncId) : AV → R
  | .var k 0 => capV C σ d f k (look σ.vars k)
  | _ => .fail
def mkFnR (C : Cfg) (σ : ASt) (d : Option Nat) (f : FuncId) : List Operand → List Operand → R
  | [], [] => σ.wr C d (.fn f)
  | [], [x] => capR C σ d f (σ.rd C 0 x)
  | _, _ => .fail

def addrR (C : Cfg) (σ : ASt) (d : Option Nat) : Option (Nat × Nat × TypeId) → AV → R
  | some (foff, _, _), .var k off => .chk (look σ.vars k).isSome (σ.wr C d (.var k (off + foff)))
  | some (foff, _, _), .elt x i off => .chk (σ.cont x).isSome (σ.wr C d (.elt x i (off + foff)))
  | _, _ => .fail
def structF (f : Nat) : TK → Option (Nat × Nat × TypeId)
  | .struct fs => fs[f]?
  | _ => none
def fieldR (C : Cfg) (σ : ASt) (d : Option Nat) : Option (Nat × Nat × TypeId) → AV → R
  | some (foff, fsz, FT), .agg cs => .chk (C.ti FT).kind.known (if (C.ti FT).kind.isAgg = true then wrImm C σ d (aggPart foff (C.ti FT).size (.agg cs)) else wrImm C σ d cs[foff]?)
  | _, _ => .fail
def idxSl (C : Cfg) (σ : ASt) (d : Option Nat) (v : AV) (i : Int) (esz : Nat) : Option (Nat × List AV) → R
  | some (sz, es) => .chk (decide (sz = esz)) (.need (0 ≤ i ∧ i < es.length) (σ.wr C d (.elt v i.toNat 0)))
  | none => .fail
def idxAddrR (C : Cfg) (σ : ASt) (d : Option Nat) : TK → AV → AV → R
  | .arr n _ esz, .var k off, .int _ i => .chk (look σ.vars k).isSome (.need (0 ≤ i ∧ i < n) (σ.wr C d (.var k (off + i.toNat * esz))))
  | .arr n _ esz, .elt y j off, .int _ i => .chk (σ.cont y).isSome (.need (0 ≤ i ∧ i < n) (σ.wr C d (.elt y j (off + i.toNat * esz))))
  | .slice _ esz _, v, .int _ i => idxSl C σ d v i esz (σ.cont v)
  | _, _, _ => .fail
def idxR (C : Cfg) (σ : ASt) (d : Option Nat) : TK → AV → AV → R
  | .arr n e esz, .agg cs, .int _ i => .need (0 ≤ i ∧ i < n) (.chk (C.ti e).kind.known (if (C.ti e).kind.isAgg = true then wrImm C σ d (aggPart (i.toNat * esz) (C.ti e).size (.agg cs)) else wrImm C σ d cs[i.toNat * esz]?))
  | .str, .str s, .int _ i => .need (0 ≤ i ∧ i < s.length) (wrImm C σ d ((s[i.toNat]?).map u8))
  | _, _, _ => .fail
def extrOne (C : Cfg) (σ : ASt) (d : Option Nat) (t i : Nat) : Option AV → R
  | some (.own sh sz es) => (σ.drop (.comp t i)).wr C d (.own sh sz es)
  | some v => wrImm C σ d (some v)
  | none => .fail
def extrR (C : Cfg) (σ : ASt) (d : Option Nat) (t i : Nat) : Option AV → R
  | some (.tup vs) => extrOne C σ d t i vs[i]?
  | _ => .fail

def lenCont (C : Cfg) (σ : ASt) (d : Option Nat) : Option (Nat × List AV) → R
  | some (_, es) => σ.wr C d (.int .i64 es.length)
  | none => .fail
def lenR (C : Cfg) (σ : ASt) (d : Option Nat) : TK → AV → R
  | .str, .str s => σ.wr C d (.int .i64 s.length)
  | .slice _ _ _, v => lenCont C σ d (σ.cont v)
  | _, _ => .fail
def appKind : TK → Bool
  | .slice _ _ _ | .str => true
  | _ => false
def appSrc (σ : ASt) : AV → Option (Nat × List AV)
  | .str s => some (1, s.map u8)
  | v => σ.cont v
def appRef (C : Cfg) (σ : ASt) (d : Option Nat) (esz eb : Nat) (l : Loc) (xs : List AV) : Option AV → R
  | some (.own sh sz es) => .chk (decide (sz = esz)) (.need ((es.length + xs.length) * eb ≤ 140737488355328) ((σ.drop l).wr C d (.own sh sz (es ++ xs))))
  | _ => .fail
def appTo (C : Cfg) (σ : ASt) (d : Option Nat) (esz eb : Nat) : AV → Option (Nat × List AV) → R
  | .own _ _ [], some (zx, xs) => .chk (decide (zx = esz)) (.need (xs.length * eb ≤ 140737488355328) (σ.wr C d (.own false esz xs)))
  | .ref l, some (zx, xs) => .chk (decide (zx = esz)) (appRef C σ d esz eb l xs (σ.at l))
  | .ext p, some (zx, xs) => .need (p = nilP) (.chk (decide (zx = esz)) (.need (xs.length * eb ≤ 140737488355328) (σ.wr C d (.own false esz xs))))
  | _, _ => .fail
def appR (C : Cfg) (σ : ASt) (d : Option Nat) : TK → AV → AV → R
  | .slice _ esz eb, s, x => appTo C σ d esz eb s (appSrc σ x)
  | _, _, _ => .fail
def maxR (C : Cfg) (σ : ASt) (d : Option Nat) : AV → AV → R
  | .int k a, .int _ b => σ.wr C d (.int k (if b > a then b else a))
  | _, _ => .fail
def fnOf : Option AV → Option FuncId
  | some (.fn f) => some f
  | _ => none
def callFn (C : Cfg) (σ : ASt) (d : Option Nat) (args : List Operand) (ts : List TypeId) : Option FuncId → R
  | some f => callEnd false f d (argsGo C (C.ownp f) 0 args ts (some ([], σ)))
  | none => .fail
def callLen (C : Cfg) (σ : ASt) (d : Option Nat) : List Operand → List TypeId → R
  | [x], [S] => lenR C σ d (C.ti S).kind (σ.rd C S x)
  | _, _ => .fail
def callApp (C : Cfg) (σ : ASt) (d : Option Nat) : List Operand → List TypeId → R
  | [s, x], [S, X] => .chk (appKind (C.ti X).kind) (appR C σ d (C.ti S).kind (σ.rd C S s) (σ.rd C X x))
  | _, _ => .fail
def callMax (C : Cfg) (σ : ASt) (d : Option Nat) (T : TypeId) : List Operand → R
  | [x, y] => maxR C σ d (σ.rd C T x) (σ.rd C T y)
  | _ => .fail
def callR (C : Cfg) (σ : ASt) (d : Option Nat) (T : TypeId) (args : List Operand) (ts : List TypeId) : Callee → R
  | .value (.func f) => callEnd (C.spc f) f d (argsGo C (C.ownp f) 0 args ts (some ([], σ)))
  | .value (.tmp t) => callFn C σ d args ts (fnOf (look σ.tmps t))
  | .builtin .len => callLen C σ d args ts
  | .builtin .append => callApp C σ d args ts
  | .builtin .max => callMax C σ d T args
  | _ => .fail

/-- A copy; a tuple is handed on whole. -/
def AV.isOwn : AV → Bool
  | .own .. => true
  | _ => false
def moveTup (C : Cfg) (σ : ASt) (i : Nat) : Option Nat → Option AV → R
  | some t, some (.tup vs) => .chk (C.may t && (look σ.vars t).isNone && vs.all (fun v => v.isImm || v.isOwn)) (.ok { σ with tmps := ins t (.tup vs) (strike (AV.leansComp t) (ins i .bot σ.tmps)) })
  | _, _ => .fail
def moveR (C : Cfg) (σ : ASt) (d : Option Nat) : AV → Operand → R
  | .bot, .tmp i => moveTup C σ i d (look σ.tmps i)
  | .bot, _ => .fail
  | v, _ => σ.wr C d v
/-- One operation. -/
def opR (C : Cfg) (σ : ASt) (d : Option Nat) (ty : TypeId) : Op → R
  | .move x => moveR C σ d (σ.rd C ty x) x
  | .assign x => assignR C σ d (σ.rd C ty x)
  | .pick c a b => pickR C σ d (σ.rd C ty c) (σ.rd C ty a) (σ.rd C ty b)
  | .alloc T => allocR C σ T d
  | .box T x => boxR C T d (σ.imm (σ.rd C T x))
  | .build T parts => .chk (C.ti T).kind.isAgg (buildEnd C d (buildGo C T parts.toList (some ((C.ti T).zero.map AV.frz0, σ))))
  | .buildSlice T n parts => bsR C σ d n parts.toList (C.ti T).kind
  | .load T p => loadR C σ d T (σ.rd C 0 p)
  | .store T p x => .chk d.isNone (storeR C σ T (σ.rd C T x) (σ.rd C 0 p))
  | .binOp op T x y _ => binR C σ d T op (σ.rd C T x) (σ.rd C T y)
  | .unOp op T x => σ.wrO C d (unVal op (σ.rd C T x))
  | .convert S D x => convR C σ d (C.ti S).kind (C.ti D).kind (σ.rd C S x)
  | .makeFunc (.func f) first captured => mkFnR C σ d f first.toList captured.toList
  | .makeSlice T l c => makeR C σ d (C.ti T).kind (σ.rd C 0 l) (σ.rd C 0 c)
  | .slice T x lo hi none => cutR C σ d lo hi (C.ti T).kind (σ.rd C T x)
  | .fieldAddr T p f => addrR C σ d (structF f (C.ti T).kind) (σ.rd C 0 p)
  | .field T x f => fieldR C σ d (structF f (C.ti T).kind) (σ.rd C T x)
  | .indexAddr T x ix => idxAddrR C σ d (C.ti T).kind (σ.rd C T x) (σ.rd C 0 ix)
  | .index T x ix => idxR C σ d (C.ti T).kind (σ.rd C T x) (σ.rd C 0 ix)
  | .extract (.tmp t) i => extrR C σ d t i (look σ.tmps t)
  | .call c => callR C σ d ty c.args.toList c.argTypes.toList c.callee
  | _ => .fail

/-- A guard: the operation is carried out, or passed over. -/
def grdO (C : Cfg) (σ : ASt) (o : Oper) (t : Nat) (want : Bool) : Option AV → R
  | some (.bool b) => .split (b == want) (opR C { σ with tmps := ins t (.bool want) σ.tmps } o.dst o.type o.op) (ASt.wr C { σ with tmps := ins t (.bool !want) σ.tmps } o.dst .undef)
  | some .undef => σ.wr C o.dst .undef
  | _ => .fail
def grdT (C : Cfg) (σ : ASt) (o : Oper) (want : Bool) : Option Nat → R
  | some t => grdO C σ o t want (look σ.tmps t)
  | none => .fail
def stepR (C : Cfg) (ops : List Oper) (σ : ASt) (o : Oper) : R :=
  match o.guard with
  | none => opR C σ o.dst o.type o.op
  | some (j, want) => grdT C σ o want ((ops[j]?).bind (·.dst))

/-! Calls whose results are put by; calls that ask about such a value; calls that write over it. -/
/-- A value whose rows stand in blocks of its own. -/
def stP (s : Stash) (x : AV) : Imm → Value → Prop := fun _ v => AR s.L s.K x v
def AV.stow (s : Stash) : AV → AV
  | .sl fr sz es => .ext (stP s (.sl fr sz es))
  | v => v
def AV.stowA (s : Stash) : AV → AV
  | .agg cs => .agg (cs.map (AV.stow s))
  | v => v.stow s
def AV.stowT (s : Stash) : AV → AV
  | .tup vs => .tup (vs.map (AV.stowA s))
  | v => v.stowA s
def AV.stowB1 : AV → Bool
  | .bool _ | .int _ _ | .str _ | .sl _ _ _ => true
  | _ => false
def AV.stowB : AV → Bool
  | .agg cs => cs.all AV.stowB1
  | v => v.stowB1
def AV.stowBT : AV → Bool
  | .tup vs => vs.all AV.stowB
  | v => v.stowB
def AV.scal : AV → Bool
  | .bool _ | .int _ _ | .str _ => true
  | _ => false
/-- Rows of one cell and more. -/
inductive Wide : AV → Prop
  | bool (b : Bool) : Wide (.bool b)
  | int (k : IntKind) (n : Int) : Wide (.int k n)
  | str (s : List UInt8) : Wide (.str s)
  | agg (cs : List AV) (h : ∀ c, c ∈ cs → Wide c) : Wide (.agg cs)
  | sl (fr : Bool) (sz : Nat) (es : List AV) (hz : 0 < sz) (h : ∀ c, c ∈ es → Wide c) : Wide (.sl fr sz es)
/-- y is z, or what was put by for z. -/
inductive By (s : Stash) : AV → AV → Prop
  | dull {y z : AV} (h : Dull y z) (hi : y.isImm = true) : By s y z
  | st {x z : AV} (h : Dull x z) : By s (.ext (stP s x)) z
  | agg (ys zs : List AV) (hl : ys.length = zs.length) (h : ∀ (j : Nat) y z, ys[j]? = some y → zs[j]? = some z → By s y z) : By s (.agg ys) (.agg zs)
inductive Bys (s : Stash) : List AV → List AV → Prop
  | nil : Bys s [] []
  | cons {x y : AV} {xs ys : List AV} : By s x y → Bys s xs ys → Bys s (x :: xs) (y :: ys)
/-- y is x, put by. -/
inductive Sty (s : Stash) : AV → AV → Prop
  | bool (b : Bool) : Sty s (.bool b) (.bool b)
  | int (k : IntKind) (i : Int) : Sty s (.int k i) (.int k i)
  | str (t : List UInt8) : Sty s (.str t) (.str t)
  | st (x : AV) : Sty s (.ext (stP s x)) x
  | agg (xs ys : List AV) (hl : xs.length = ys.length) (h : ∀ (j : Nat) x y, xs[j]? = some x → ys[j]? = some y → Sty s x y) : Sty s (.agg xs) (.agg ys)
/-- A function that writes over the rows of its argument, and over nothing else. -/
structure Spoil (P : Program) (f : FuncId) (x : AV) : Prop where
  wide : Wide x
  enters : ∃ fn c, P.funcs[f]? = some fn ∧ (fn.name == "runtime.NumGoroutine") = false ∧ fn.body = some c
  calls : ∀ (I : Imm) (w : World) (v : Value), I.ok w → AR (fun _ => True) I x v → (∀ b, (∀ M, AR M I x v → M b) → ∀ o u, I b o = some u → w.frozen? ⟨b, o, none⟩ = false) →
    Calls P f #[v] w fun e w' => e = .returned (.tuple #[]) ∧ Fr w w' fun b => (∀ M, AR M I x v → M b) ∧ ∃ o u, I b o = some u
def ASt.stow (σ : ASt) (s : Stash) : ASt := { σ with st := s :: σ.st }
def ASt.unstow (σ : ASt) (l : List Stash) : ASt := { σ with st := l }
/-- A call whose result is put by. -/
def Forks (C : Cfg) (K : ASt → Prop) (f : FuncId) (ars : List AV) (d : Option Nat) (σ : ASt) : Prop :=
  ∃ bs res, Dulls ars bs ∧ Contract C.P f bs res ∧ ars.all AV.isImm = true ∧ res.stowBT = true ∧ ∀ s, ∃ σ', (σ.stow s).wrRes C d (res.stowT s) = .ok σ' ∧ K σ'
/-- A call that asks about what was put by. -/
def Asks (C : Cfg) (K : ASt → Prop) (f : FuncId) (ars : List AV) (d : Option Nat) (σ : ASt) : Prop :=
  ∃ s bs res, s ∈ σ.st ∧ Bys s ars bs ∧ Contract C.P f bs res ∧ res.scal = true ∧ ∃ σ', σ.wrRes C d res = .ok σ' ∧ K σ'
/-- A call that writes over its argument. -/
def Spoils (C : Cfg) (K : ASt → Prop) (f : FuncId) (ars : List AV) (d : Option Nat) (σ : ASt) : Prop :=
  ∃ s l1 l2 y x, C.spl f = true ∧ σ.st = l1 ++ s :: l2 ∧ ars = [y] ∧ Sty s y x ∧ Spoil C.P f x ∧ ∃ σ', (σ.unstow (l1 ++ l2)).wrRes C d (.tup []) = .ok σ' ∧ K σ'
/-- A call like any other. -/
def Plains (C : Cfg) (K : ASt → Prop) (f : FuncId) (ars : List AV) (d : Option Nat) (σ : ASt) : Prop :=
  ∃ bs res, Dulls ars bs ∧ Contract C.P f bs res ∧ ∃ σ', σ.wrRes C d res = .ok σ' ∧ K σ'
/-- A call with two results, each of which is put by for itself. -/
def Forks2 (C : Cfg) (K : ASt → Prop) (f : FuncId) (ars : List AV) (d : Option Nat) (σ : ASt) : Prop :=
  ∃ bs x y z, Dulls ars bs ∧ Contract2 C.P f bs x y z ∧ ars.all AV.isImm = true ∧ x.stowB = true ∧ y.stowB = true ∧ z.scal = true ∧ ∀ s t, ∃ σ', ((σ.stow t).stow s).wrRes C d (.tup [x.stowA s, y.stowA t, z]) = .ok σ' ∧ K σ'
/-- A call with a colouring. -/
def Ghosts (C : Cfg) (K : ASt → Prop) (f : FuncId) (ars : List AV) (d : Option Nat) (σ : ASt) : Prop :=
  ∃ bs res, Dulls ars bs ∧ Ghost C.P f bs res ∧ ∀ col, ∃ σ', σ.wrRes C d (res col) = .ok σ' ∧ K σ'

/-- What a result owes. -/
def R.wp (C : Cfg) (K : ASt → Prop) : R → Prop
  | .ok σ => K σ
  | .fail => False
  | .need p r => p ∧ r.wp C K
  | .split b r s => (b = true → r.wp C K) ∧ (b = false → s.wp C K)
  | .both p r s => (p → r.wp C K) ∧ s.wp C K
  | .call f ars d σ => (∃ bs res, Dulls ars bs ∧ (Contract C.P f bs res ∨ Extern C.P f bs res ∨ bs = ars ∧ Through C.P f ars res) ∧ ∃ σ', σ.wrRes C d res = .ok σ' ∧ K σ') ∨ Ghosts C K f ars d σ
  | .special f ars d σ => Forks C K f ars d σ ∨ Asks C K f ars d σ ∨ Spoils C K f ars d σ ∨ Plains C K f ars d σ ∨ Forks2 C K f ars d σ

def aops (C : Cfg) (ops : List Oper) (Q : ASt → Prop) : List Oper → ASt → Prop
  | [], σ => Q σ
  | o :: r, σ => (stepR C ops σ o).wp C (aops C ops Q r)

inductive AEx where
  | normal
  | exit (id : Nat)
  | ret
def AEx.then (K : ASt → Prop) (Q : AEx → ASt → Prop) : AEx → ASt → Prop
  | .normal, σ => K σ
  | e, σ => Q e σ
def AEx.inBlock (id : Nat) (Q : AEx → ASt → Prop) : AEx → ASt → Prop
  | .exit i, σ => if i = id then Q .normal σ else Q (.exit i) σ
  | e, σ => Q e σ

def keepV : List Nat → List (Nat × List AV) → List (Nat × List AV)
  | _, [] => []
  | ks, (j, cs) :: r => consIf (ks.contains j) (j, cs) (keepV ks r)
def ASt.keep (σ : ASt) (live : List Nat) : ASt := { σ with tmps := keepL live σ.tmps, vars := keepV live σ.vars }

/-- Rounds of a loop. -/
def arounds (L : List Nat) (body : (AEx → ASt → Prop) → ASt → Prop) (Q : AEx → ASt → Prop) : Nat → ASt → Prop
  | 0, _ => False
  | n + 1, σ => body (AEx.then (arounds L body Q n) Q) (σ.keep L)

/-- What may be carried out while variables are locked. -/
def lockedOk : Op → Bool
  | .store _ _ _ => false
  | _ => true
def convQ : TK → TK → Bool
  | .int _, .int _ => true
  | .str, .str => true
  | _, _ => false
inductive Ord where
  | fin
  | quiet (i : Nat) (t : Ord)
  | one (i : Nat) (t : Ord)
  | two (i : Nat) (t : Ord) (j : Nat) (u : Ord)
  | three (i : Nat) (t : Ord) (j : Nat) (u : Ord) (k : Nat) (v : Ord)
  | lone (i : Nat) (t : Ord)
  | unlock (t : Ord)
def Ord.depth : Ord → Nat
  | .fin => 0
  | .quiet _ t => t.depth + 1
  | .one _ t => t.depth + 1
  | .two _ t _ u => max t.depth u.depth + 1
  | .three _ t _ u _ v => max t.depth (max u.depth v.depth) + 1
  | .lone _ t => t.depth + 1
  | .unlock t => t.depth
def waitsAll (ops : Array Oper) (B : List Nat) (i : Nat) : Bool :=
  B.all fun j => match ops[j]? with | some oj => oj.after.any (fun e => Region.binds .any e && e.on == i) | none => true
/-- What looks at values alone. -/
def pureOp : Op → Bool
  | .load _ _ => false
  | _ => true
def pureB (ops : Array Oper) (i : Nat) : Bool :=
  match ops[i]? with
  | some o => pureOp o.op
  | none => false
def mayOne (ops : Array Oper) (B : List Nat) (lk : Bool) (i : Nat) : Bool :=
  match lk with
  | true => (match ops[i]? with | some o => lockedOk o.op | none => false)
  | false => B.contains i
def okOrd (ops : Array Oper) (B : List Nat) : Bool → Array Bool → Ord → Bool
  | _, listed, .fin => (Region.ready .any ops listed).isEmpty
  | lk, listed, .quiet i t => (lk || pureB ops i) && ((Region.ready .any ops listed).contains i && (Region.free .any ops listed i && ((pureB ops i || waitsAll ops B i) && okOrd ops B lk (listed.setIfInBounds i true) t)))
  | lk, listed, .one i t => ((Region.ready .any ops listed).contains i && (Region.ready .any ops listed).all (fun j => j == i)) && (mayOne ops B lk i && okOrd ops B lk (listed.setIfInBounds i true) t)
  | lk, listed, .two i t j u => ((Region.ready .any ops listed).contains i && (Region.ready .any ops listed).all (fun k => k == i || k == j)) && (mayOne ops B lk i && (mayOne ops B lk j && (okOrd ops B lk (listed.setIfInBounds i true) t && okOrd ops B lk (listed.setIfInBounds j true) u)))
  | lk, listed, .three i t j u k v => ((Region.ready .any ops listed).contains i && (Region.ready .any ops listed).all (fun m => m == i || m == j || m == k)) && (mayOne ops B lk i && (mayOne ops B lk j && (mayOne ops B lk k && (okOrd ops B lk (listed.setIfInBounds i true) t && (okOrd ops B lk (listed.setIfInBounds j true) u && okOrd ops B lk (listed.setIfInBounds k true) v)))))
  | lk, listed, .lone i t => lk && (((Region.ready .any ops listed).contains i && (Region.ready .any ops listed).all (fun j => j == i)) && okOrd ops B lk (listed.setIfInBounds i true) t)
  | lk, listed, .unlock t => lk && okOrd ops B false listed t

/-- Operations that yield their value in every later world. -/
def quietLoad (ns : List Nat) : AV → Bool
  | .var k _ => !ns.contains k
  | .elt (.ref _) _ _ => false
  | _ => true
def quietCallee : Callee → Bool
  | .builtin .len | .builtin .max => true
  | _ => false
def quietOp (C : Cfg) (ns : List Nat) (σ : ASt) : Op → Bool
  | .move _ | .assign _ | .pick _ _ _ | .binOp _ _ _ _ _ | .unOp _ _ _ | .fieldAddr _ _ _ | .field _ _ _ | .indexAddr _ _ _ | .index _ _ _ => true
  | .makeFunc (.func _) _ _ => true
  | .extract (.tmp _) _ => true
  | .slice _ _ _ _ none => true
  | .convert S T _ => convQ (C.ti S).kind (C.ti T).kind
  | .load _ x => quietLoad ns (σ.rd C 0 x)
  | .call c => quietCallee c.callee
  | _ => false
def aoq (C : Cfg) (ops : List Oper) (ns : List Nat) (σ : ASt) (K : ASt → Prop) : Option Oper → Prop
  | some o => quietOp C ns σ o.op = true ∧ (stepR C ops σ o).wp C K
  | none => False
def aoo (C : Cfg) (ops : List Oper) (σ : ASt) (K : ASt → Prop) : Option Oper → Prop
  | some o => (stepR C ops σ o).wp C K
  | none => False
/-- A store into an element of a row: it leaves all variables as they are. -/
def eltAddr (ns : List Nat) : AV → Bool
  | .elt _ _ _ => true
  | .var k _ => ns.contains k
  | _ => false
def loneOp (C : Cfg) (ns : List Nat) (σ : ASt) : Op → Bool
  | .store _ p _ => eltAddr ns (σ.rd C 0 p)
  | _ => false
def aol (C : Cfg) (ops : List Oper) (ns : List Nat) (σ : ASt) (K : ASt → Prop) : Option Oper → Prop
  | some o => (o.guard.isNone && loneOp C ns σ o.op) = true ∧ (stepR C ops σ o).wp C K
  | none => False
/-- The variables that a region makes. -/
def madeB (ns : List Nat) (o : Oper) : Bool :=
  match o.op with
  | .alloc _ | .box _ _ => match o.dst with | some d => ns.contains d | none => true
  | _ => true
/-- A call of another kind. -/
def specC (C : Cfg) : Callee → Bool
  | .value (.func f) => C.spl f
  | _ => false
def specO (C : Cfg) (o : Oper) : Bool :=
  match o.op with
  | .call c => specC C c.callee
  | _ => false
def aord (C : Cfg) (ops : List Oper) (ns : List Nat) (K : ASt → Prop) : Ord → ASt → Prop
  | .fin, σ => K σ
  | .quiet i t, σ => aoq C ops ns σ (aord C ops ns K t) ops[i]?
  | .one i t, σ => aoo C ops σ (aord C ops ns K t) ops[i]?
  | .two i t j u, σ => aoo C ops σ (aord C ops ns K t) ops[i]? ∧ aoo C ops σ (aord C ops ns K u) ops[j]?
  | .three i t j u k v, σ => aoo C ops σ (aord C ops ns K t) ops[i]? ∧ aoo C ops σ (aord C ops ns K u) ops[j]? ∧ aoo C ops σ (aord C ops ns K v) ops[k]?
  | .lone i t, σ => aol C ops ns σ (aord C ops ns K t) ops[i]?
  | .unlock t, σ => aord C ops ns K t σ

def condA (σ : ASt) (P Q : Prop) : AV → Prop
  | .bool t => (t = true → P) ∧ (t = false → Q)
  | _ => False

/-! Loops over functions. -/
/-- One round of loop l, of the value u: what it tells the function that is ranged over. -/
def RoundW (P : Program) (l : Nat) (u : Value) (w : World) (R : Bool → World → Prop) : Prop :=
  ∃ f tmps assign body, (Instr.yield l #[u]).run P w = .ok (.round l f tmps assign body) w ∧
    RoundIn Fence.wide 0 P l f tmps assign body w fun e w' => ∃ b, e = .returned (.bool b) ∧ R b w'
/-- What another's step turns: the blocks gs, of which gs' are left, and new ones. -/
structure RStep (w : World) (I : Imm) (gs : List Nat) (w' : World) (I' : Imm) (gs' : List Nat) : Prop where
  fr : Fr w w' (· ∈ gs)
  le : Imm.le I I'
  ok : Imm.ok I' w'
  inew : ∀ b o u, I' b o = some u → I b o = some u ∨ w.heap.size ≤ b ∨ b ∈ gs
  mine : ∀ g, g ∈ gs' → (g ∈ gs ∨ w.heap.size ≤ g) ∧ g < w'.heap.size
/-- A function that hands xs, one by one, to the loop that ranges over it. -/
def Iter (P : Program) (p : Imm → Value → Prop) (xs : List AV) : Prop :=
  ∀ (J : Imm) (v : Value), p J v → ∃ gf lb, v = .func (.func gf) #[] lb ∧ (∀ args w, (callFunc gf args).run P w = .ok (.enter gf args) w) ∧
    ∀ (l : Nat) (Inv : Nat → List Nat → Imm → World → Prop) (Stop : List Nat → Imm → World → Prop) (gs : List Nat) (I : Imm) (w : World),
      Imm.ok I w → Imm.le J I → (∀ g, g ∈ gs → g < w.heap.size) → Inv 0 gs I w →
      (∀ i gs I w I' w', Inv i gs I w → RStep w I [] w' I' [] → Inv i gs I' w') →
      (∀ gs I w I' w', Stop gs I w → RStep w I [] w' I' [] → Stop gs I' w') →
      (∀ i x u gs I w, xs[i]? = some x → Inv i gs I w → Imm.ok I w → AR (fun _ => True) I x u →
        RoundW P l u w fun b w' => ∃ gs' I', RStep w I gs w' I' gs' ∧ ((b = true ∧ Inv (i + 1) gs' I' w') ∨ (b = false ∧ Stop gs' I' w'))) →
      Calls P gf (#[.func (.yield l) #[] #[]] ++ lb) w fun e w' => ∃ v gs I, e = .returned v ∧ (Inv xs.length gs I w' ∨ Stop gs I w')
/-- What a round does not see of the temporaries; what is lost behind the loop. -/
def AV.dropR (ks : List Nat) : AV → Bool
  | .var k _ => !ks.contains k
  | .bool _ | .int _ _ | .str _ => false
  | _ => true
def AV.dropA (ks : List Nat) : AV → Bool
  | .var k _ => !ks.contains k
  | .own _ _ _ => false
  | x => !x.isImm
def Cfg.round (C : Cfg) (ks : List Nat) : Cfg := { C with fix := ks, inr := true, spc := fun _ => false, spl := fun _ => false }
/-- No mark within. -/
def AV.plainV : AV → Prop
  | .bot | .undef => True
  | x => Plain x
def plainVs (vs : List (Nat × List AV)) : Prop := ∀ k cs, look vs k = some cs → ∀ c, c ∈ cs → c.plainV
def roundQ (ks : List Nat) (ta : List (Nat × AV)) (s : List (Nat × List AV)) (Q : AEx → ASt → Prop) : AEx → ASt → Prop
  | .normal, τ => keepV ks τ.vars = s
  | .exit id, τ => plainVs (keepV ks τ.vars) ∧ Q (.exit id) ⟨ta, keepV ks τ.vars, []⟩
  | .ret, τ => plainVs (keepV ks τ.vars) ∧ Q .ret ⟨ta, keepV ks τ.vars, []⟩

/-- The weakest precondition of code. -/
def aco : Cfg → Code → (AEx → ASt → Prop) → ASt → Prop
  | _, .skip, Q, σ => Q .normal σ
  | _, .label _, Q, σ => Q .normal σ
  | C, .scope c, Q, σ => aco C c Q σ
  | C, .region _ ops false, Q, σ => aops C ops.toList (fun σ' => Q .normal (σ'.keep C.live)) ops.toList σ
  | C, .region _ ops true, Q, σ => ∃ B ns t, (Region.noSelect ops && (ops.toList.all (fun o => madeB ns o && !specO C o) && (okOrd ops B true (Array.replicate ops.size false) t && decide (t.depth ≤ ops.size)))) = true ∧ aord C ops.toList ns (fun σ' => Q .normal (σ'.keep C.live)) t σ
  | C, .seq a b, Q, σ => aco C a (AEx.then (aco C b Q) Q) σ
  | C, .cond c a b, Q, σ => condA σ (aco C a Q σ) (aco C b Q σ) (σ.rd C 0 c)
  | C, .block id c, Q, σ => aco C c (AEx.inBlock id Q) σ
  | C, .loop c, Q, σ => ∃ L n, arounds L (aco C c) Q n σ
  | _, .exit id, Q, σ => Q (.exit id) σ
  | _, .ret, Q, σ => Q .ret σ
  | C, .rangeFunc g ps (.region _ ops false) body, Q, σ => ∃ (ks : List Nat) (t : Nat) (p : Imm → Value → Prop) (xs : List AV) (st : Nat → List (Nat × List AV)),
      (C.inr = false ∧ C.fix = [] ∧ ps = #[t] ∧ t < C.n ∧ ks.contains t = false ∧ ks.all (fun k => (look σ.vars k).isSome) = true ∧ σ.rd C 0 g = .ext p ∧ Iter C.P p xs ∧ keepV ks σ.vars = st 0 ∧ plainVs (st xs.length) ∧ ∀ f, C.spc f = false) ∧
      (∀ i x, xs[i]? = some x → x.isImm = true ∧ aops (C.round ks) ops.toList (fun τ => aco (C.round ks) body (roundQ ks (strike (AV.dropA ks) σ.tmps) (st (i + 1)) Q) (τ.keep C.live)) ops.toList ⟨ins t x (strike (AV.dropR ks) σ.tmps), st i, []⟩) ∧
      Q .normal ⟨strike (AV.dropA ks) σ.tmps, st xs.length, []⟩
  | _, _, _, _ => False

/-- The result of a call. -/
def resTmp : Option AV → Option AV
  | some (.own sh sz es) => some (.own sh sz es)
  | some v => if v.isImm = true then some v else none
  | none => none
def resCells (C : Cfg) (T : TypeId) : Option (List AV) → Option AV
  | some cs => if decide (cs.length = (C.ti T).size) && cs.all (fun c => c.frz.isImm) then (if (C.ti T).kind.isAgg = true then some (.agg (cs.map AV.frz)) else cs[0]?.map AV.frz) else none
  | none => none
def resVar (C : Cfg) (σ : ASt) (T : TypeId) : Option AV → Option AV
  | some (.var k 0) => resCells C T (look σ.vars k)
  | _ => none
def resOne (C : Cfg) (σ : ASt) : ResultVar → Option AV
  | .tmp t => resTmp (look σ.tmps t)
  | .cell t T => resVar C σ T (look σ.tmps t)
def resCons : Option AV → Option (List AV) → Option (List AV)
  | some v, some vs => some (v :: vs)
  | _, _ => none
def resAll (C : Cfg) (σ : ASt) : List ResultVar → Option (List AV)
  | [] => some []
  | r :: rs => resCons (resOne C σ r) (resAll C σ rs)
def resTup : Option (List AV) → Option AV
  | some [v] => some v
  | some vs => some (.tup vs)
  | none => none
def resOf (C : Cfg) (σ : ASt) (rs : List ResultVar) : Option AV := resTup (resAll C σ rs)

/-- The state in which a call begins. -/
def argsAt : Nat → List AV → List (Nat × AV)
  | _, [] => []
  | i, a :: ars => (i, a) :: argsAt (i + 1) ars
def startSt (args : List AV) : ASt := { tmps := argsAt 0 args, vars := [] }

/-- What is still to be done. -/
inductive Todo where
  | code (c : Code)
  | res (r : R)
  | ops (all r : List Oper)
  | br (v : AV) (a b : Code)
  | keep
  | ord (all : List Oper) (ns : List Nat) (t : Ord)
  | oq (o : Option Oper) (q : Bool) (ns : List Nat) (all : List Oper)
  | ol (o : Option Oper) (ns : List Nat) (all : List Oper)
  | inBlock (id : Nat)
  | rounds (L : List Nat) (n : Nat) (c : Code)

def exec (C : Cfg) (Q : AEx → ASt → Prop) : List Todo → AEx → ASt → Prop
  | [], e, σ => Q e σ
  | .code c :: k, .normal, σ => aco C c (exec C Q k) σ
  | .res r :: k, .normal, _ => r.wp C (exec C Q k .normal)
  | .ops all r :: k, .normal, σ => aops C all (exec C Q k .normal) r σ
  | .br v a b :: k, .normal, σ => condA σ (aco C a (exec C Q k) σ) (aco C b (exec C Q k) σ) v
  | .keep :: k, .normal, σ => exec C Q k .normal (σ.keep C.live)
  | .ord all ns t :: k, .normal, σ => aord C all ns (exec C Q k .normal) t σ
  | .oq o true ns all :: k, .normal, σ => aoq C all ns σ (exec C Q k .normal) o
  | .oq o false ns all :: k, .normal, σ => aoo C all σ (exec C Q k .normal) o
  | .ol o ns all :: k, .normal, σ => aol C all ns σ (exec C Q k .normal) o
  | .rounds L n c :: k, .normal, σ => arounds L (aco C c) (exec C Q k) n σ
  | .inBlock id :: k, .exit i, σ => if i = id then exec C Q k .normal σ else exec C Q k (.exit i) σ
  | _ :: k, e, σ => exec C Q k e σ

end Go.Proofs.Ytmngjlgeojbghaa.VA
end
section
namespace Go.Proofs.Ytmngjlgeojbghaa.VA

section lists
variable {α : Type}
theorem look_ins (k : Nat) (x : α) : ∀ (l : List (Nat × α)) (j : Nat), look (ins k x l) j = if j = k then some x else look l j
  | [], j => by simp [ins, look]
  | (i, y) :: r, j => by
    have ih := look_ins k x r j
    unfold ins
    by_cases h1 : k < i
    · simp only [h1, if_true, look]
    · by_cases h2 : k = i
      · subst h2
        simp only [Nat.lt_irrefl, if_false, if_true, look]
        by_cases h : j = k <;> simp [h]
      · simp only [h1, h2, if_false, look, ih]
        by_cases h : j = i
        · subst h
          simp [Ne.symm h2]
        · simp [h]
end lists
theorem look_strike (p : AV → Bool) : ∀ (l : List (Nat × AV)) (j : Nat), look (strike p l) j = (look l j).map fun y => if p y = true then .bot else y
  | [], j => by simp [strike, look]
  | (i, y) :: r, j => by
    unfold strike
    simp only [look]
    by_cases hj : j = i
    · simp [hj]
    · simp only [hj, if_false]; exact look_strike p r j
theorem look_keep {α : Type} (f : List Nat → List (Nat × α) → List (Nat × α)) (h0 : ∀ ks, f ks [] = []) (h1 : ∀ ks j x r, f ks ((j, x) :: r) = consIf (ks.contains j) (j, x) (f ks r)) :
    ∀ (l : List (Nat × α)) (ks : List Nat) (j : Nat) (x : α), look (f ks l) j = some x → look l j = some x ∧ ks.contains j = true
  | [], ks, j, x, h => by rw [h0] at h; cases h
  | (i, y) :: r, ks, j, x, h => by
    rw [h1] at h
    simp only [look]
    cases hc : ks.contains i with
    | true =>
      rw [hc] at h
      simp only [consIf, look] at h
      split at h
      · rename_i e
        subst e
        rw [if_pos rfl]; exact ⟨h, hc⟩
      · rename_i e
        rw [if_neg e]; exact look_keep f h0 h1 r ks j x h
    | false =>
      rw [hc] at h
      obtain ⟨k1, k2⟩ := look_keep f h0 h1 r ks j x h
      have e : j ≠ i := by
        intro e; subst e; rw [hc] at k2; cases k2
      rw [if_neg e]; exact ⟨k1, k2⟩
theorem look_keepL (l : List (Nat × AV)) (ks : List Nat) (j : Nat) (x : AV) (h : look (keepL ks l) j = some x) : look l j = some x ∧ ks.contains j = true :=
  look_keep keepL (fun _ => rfl) (fun _ _ _ _ => rfl) l ks j x h
theorem look_keepV (ks : List Nat) (l : List (Nat × List AV)) (j : Nat) (cs : List AV) (h : look (keepV ks l) j = some cs) : look l j = some cs ∧ ks.contains j = true :=
  look_keep keepV (fun _ => rfl) (fun _ _ _ _ => rfl) l ks j cs h

theorem Imm.leRefl (I : Imm) : Imm.le I I := fun _ _ _ h => h
theorem Imm.le.trans {I J K : Imm} (h : Imm.le I J) (k : Imm.le J K) : Imm.le I K := fun b o v e => k b o v (h b o v e)

theorem AR.mono {M N : Nat → Prop} {I J : Imm} (_hM : ∀ b, M b → N b) (hI : Imm.le I J) {a : AV} {v : Value} (h : AR M I a v) : AR N J a v := by
  induction h with
  | bool b => exact .bool b
  | int k n => exact .int k n
  | str s => exact .str s
  | fn f => exact .fn f
  | nilf => exact .nilf
  | agg cs vs hl h1 _ ih => exact .agg cs vs hl h1 ih
  | slnil fr sz base cap => exact .slnil fr sz base cap
  | sl fr sz es b o n cap hn hc vs _ hz hc' hM ih => exact .sl fr sz es b o n cap hn hc vs ih hz (fun i j c hi hj => hI _ _ _ (hc' i j c hi hj)) fun e => _hM _ (hM e)
  | ext p K v hJ h1 hp => exact .ext p K v (fun b o u e => hI _ _ _ (hJ b o u e)) h1 hp
  | hd b x p K v _ hi hJ h1 hp ih => exact .hd b x p K v ih hi (fun b o u e => hI _ _ _ (hJ b o u e)) h1 hp

/-- Whose making a block is does not matter where no mark speaks of it. -/
theorem AR.tt {M : Nat → Prop} {I : Imm} {a : AV} {v : Value} (h : AR M I a v) : AR (fun _ => True) I a v := h.mono (fun _ _ => trivial) (Imm.leRefl I)
theorem cells_one {v : Value} (h : v.oneCell' = true) : v.cells = #[v] := by
  cases v <;> first | rfl | (simp [Value.oneCell'] at h)
theorem get_one {α : Type} {x c : α} {j : Nat} (h : (#[x] : Array α)[j]? = some c) : j = 0 ∧ c = x := by
  cases j with
  | zero => simp at h; exact ⟨rfl, h.symm⟩
  | succ j => simp at h
theorem lget_one {α : Type} {x c : α} {j : Nat} (h : [x][j]? = some c) : j = 0 ∧ c = x := by
  cases j with
  | zero => simp at h; exact ⟨rfl, h.symm⟩
  | succ j => simp at h

/-- The kinds of values that stand in one cell. -/
theorem AR.kind {M : Nat → Prop} {I : Imm} {a : AV} {v : Value} (h : AR M I a v) : (∃ cs vs, a = .agg cs ∧ v = .agg vs ∧ cs.length = vs.size ∧ (∀ (j : Nat) v, vs[j]? = some v → v.oneCell' = true) ∧ ∀ (j : Nat) c v, cs[j]? = some c → vs[j]? = some v → AR M I c v) ∨
    (v.oneCell' = true ∧ a.flat = [a]) := by
  cases h with
  | agg cs vs hl h1 h => exact .inl ⟨cs, vs, rfl, rfl, hl, h1, h⟩
  | ext p J v hJ h1 hp => exact .inr ⟨h1, rfl⟩
  | hd b x p J v _ _ hJ h1 hp => exact .inr ⟨h1, rfl⟩
  | _ => exact .inr ⟨rfl, rfl⟩
theorem AR.imm {M : Nat → Prop} {I : Imm} {a : AV} {v : Value} (h : AR M I a v) : a.isImm = true := by cases h <;> rfl

theorem AR.one {M : Nat → Prop} {I : Imm} {a : AV} {v : Value} (h : AR M I a v) (j : Nat) (c : Value) (hc : v.cells[j]? = some c) : c.oneCell' = true := by
  rcases h.kind with ⟨cs, vs, rfl, rfl, _, h1, _⟩ | ⟨h1, _⟩
  · exact h1 j c hc
  · rw [cells_one h1] at hc
    obtain ⟨_, rfl⟩ := get_one hc
    exact h1
theorem AR.flen {M : Nat → Prop} {I : Imm} {a : AV} {v : Value} (h : AR M I a v) : a.flat.length = v.cells.size := by
  rcases h.kind with ⟨cs, vs, rfl, rfl, hl, _, _⟩ | ⟨h1, hf⟩
  · exact hl
  · rw [cells_one h1, hf]; rfl
theorem AR.fcell {M : Nat → Prop} {I : Imm} {a : AV} {v : Value} (h : AR M I a v) (j : Nat) (c : AV) (u : Value) (hc : a.flat[j]? = some c) (hu : v.cells[j]? = some u) : AR M I c u := by
  rcases h.kind with ⟨cs, vs, rfl, rfl, hl, _, hh⟩ | ⟨h1, hf⟩
  · exact hh j c u hc hu
  · rw [cells_one h1] at hu
    rw [hf] at hc
    obtain ⟨_, rfl⟩ := get_one hu
    obtain ⟨_, rfl⟩ := lget_one hc
    exact h

/-- Fewer marks. -/
theorem AR.dull {M : Nat → Prop} {I : Imm} {a b : AV} (hd : Dull a b) : ∀ {v : Value}, AR M I a v → AR M I b v := by
  induction hd with
  | refl a => exact fun h => h
  | agg xs ys hl _ ih =>
    intro v h
    cases h with
    | agg _ vs hl' h1 h =>
      refine .agg ys vs (hl.symm.trans hl') h1 fun j y u hy hu => ?_
      have hj : j < xs.length := by
        have := (List.getElem?_eq_some_iff.1 hy).1; omega
      exact ih j xs[j] y (List.getElem?_eq_getElem hj) hy (h j _ u (List.getElem?_eq_getElem hj) hu)
  | nil fr sz =>
    intro v h
    cases h with
    | ext _ K _ _ _ hp =>
      have hp : v = .slice none 0 0 := hp
      subst hp
      exact .slnil fr sz none 0
  | sl fr sz xs ys hl _ ih =>
    intro v h
    cases h with
    | slnil =>
      obtain rfl : ys = [] := List.eq_nil_of_length_eq_zero hl.symm
      exact .slnil false sz _ _
    | sl _ _ _ b o n cap hn hc vs hv hz hI hM =>
      refine .sl false sz ys b o n cap (hn.trans hl) hc vs (fun i y hy => ?_) (fun i hi => hz i (by omega)) (fun i j c hi hj => hI i j c (by omega) hj) (fun e => by cases e)
      have hj : i < xs.length := by
        have := (List.getElem?_eq_some_iff.1 hy).1; omega
      exact ih i xs[i] y (List.getElem?_eq_getElem hj) hy (hv i _ (List.getElem?_eq_getElem hj))
  | slk fr sz xs ys hl _ ih =>
    intro v h
    cases h with
    | slnil =>
      obtain rfl : ys = [] := List.eq_nil_of_length_eq_zero hl.symm
      exact .slnil fr sz _ _
    | sl _ _ _ b o n cap hn hc vs hv hz hI hM =>
      refine .sl fr sz ys b o n cap (hn.trans hl) hc vs (fun i y hy => ?_) (fun i hi => hz i (by omega)) (fun i j c hi hj => hI i j c (by omega) hj) hM
      have hj : i < xs.length := by
        have := (List.getElem?_eq_some_iff.1 hy).1; omega
      exact ih i xs[i] y (List.getElem?_eq_getElem hj) hy (hv i _ (List.getElem?_eq_getElem hj))
  | hd b x y p _ _ ih =>
    intro v h
    cases h with
    | hd _ _ _ _ _ hx => exact ih hx
theorem AR.plain {M N : Nat → Prop} {I : Imm} {a : AV} {v : Value} (h : AR M I a v) : Plain a → AR N I a v := by
  induction h with
  | bool b => exact fun _ => .bool b
  | int k n => exact fun _ => .int k n
  | str s => exact fun _ => .str s
  | fn f => exact fun _ => .fn f
  | nilf => exact fun _ => .nilf
  | agg cs vs hl h1 _ ih =>
    intro hp
    cases hp with
    | agg _ hp => exact .agg cs vs hl h1 fun j c v hc hv => ih j c v hc hv (hp c (List.mem_of_getElem? hc))
  | slnil fr sz base cap => exact fun _ => .slnil fr sz base cap
  | sl fr sz es b o n cap hn hc vs _ hz hc' _ ih =>
    intro hp
    cases hp with
    | sl _ _ hp => exact .sl false sz es b o n cap hn hc vs (fun i e he => ih i e he (hp e (List.mem_of_getElem? he))) hz hc' (fun e => by cases e)
  | ext p K v hJ h1 hp => exact fun _ => .ext p K v hJ h1 hp
  | hd b x p K v _ _ _ _ _ _ => exact fun hp => by cases hp

/-- A row whose cells stand as they stood. -/
theorem Row.keep {M N : Nat → Prop} {I J : Imm} {w w' : World} {g : Nat} {sh : Bool} {sz : Nat} {es : List AV} {cap : Nat} (h : Row M I w g sh sz es cap) (hM : ∀ b, M b → N b) (hI : Imm.le I J)
    (hn : ∀ o, I g o = none → J g o = none) (hc : ∀ o, w'.cell? ⟨g, o, none⟩ = w.cell? ⟨g, o, none⟩) (hf : ∀ o, w'.frozen? ⟨g, o, none⟩ = w.frozen? ⟨g, o, none⟩) : Row N J w' g sh sz es cap where
  le := h.le
  capm := h.capm
  cells o ho := by rw [hc, hf]; exact h.cells o ho
  elems i e he := by
    obtain ⟨v, h1, h2, h3⟩ := h.elems i e he
    exact ⟨v, h1.mono hM hI, h2, fun j c hj => by rw [hc]; exact h3 j c hj⟩
  immc hs o v ho hv := hI _ _ _ (h.immc hs o v ho (by rw [← hc]; exact hv))
  immn o ho := hn o (h.immn o ho)
  frz hs o := by rw [hf]; exact h.frz hs o

theorem idx_lt {i j n sz : Nat} (hi : i < n) (hj : j < sz) : i * sz + j < n * sz := by
  have : (i + 1) * sz ≤ n * sz := Nat.mul_le_mul_right sz hi
  rw [Nat.add_mul] at this
  omega

/-- What a marked row reads as. -/
theorem Row.toSl {M : Nat → Prop} {I : Imm} {w : World} {g : Nat} {sz : Nat} {es : List AV} {cap : Nat} (h : Row M I w g true sz es cap) (_hg : M g) : AR M I (.sl true sz es) (.slice (some ⟨g, 0, none⟩) es.length cap) := by
  have hx : ∀ i, ∃ v, i < es.length → (∀ e, es[i]? = some e → AR M I e v) ∧ v.cells.size = sz ∧ ∀ (j : Nat) c, v.cells[j]? = some c → w.cell? ⟨g, i * sz + j, none⟩ = some c := by
    intro i
    by_cases hi : i < es.length
    · obtain ⟨v, h1, h2, h3⟩ := h.elems i _ (List.getElem?_eq_getElem hi)
      exact ⟨v, fun _ => ⟨fun e he => by rw [List.getElem?_eq_getElem hi] at he; cases he; exact h1, h2, h3⟩⟩
    · exact ⟨undef, fun h => (hi h).elim⟩
  obtain ⟨vs, hvs⟩ : ∃ vs : Nat → Value, ∀ i, i < es.length → (∀ e, es[i]? = some e → AR M I e (vs i)) ∧ (vs i).cells.size = sz ∧ ∀ (j : Nat) c, (vs i).cells[j]? = some c → w.cell? ⟨g, i * sz + j, none⟩ = some c :=
    ⟨fun i => Classical.choose (hx i), fun i hi => Classical.choose_spec (hx i) hi⟩
  refine .sl true sz es g 0 es.length cap rfl h.le vs (fun i e he => (hvs i (List.getElem?_eq_some_iff.1 he).1).1 e he) (fun i hi => (hvs i hi).2.1) (fun i j c hi hj => ?_) fun _ => _hg
  rw [Nat.zero_add]
  have hjs : j < sz := by
    have := (Array.getElem?_eq_some_iff.1 hj).1
    rw [(hvs i hi).2.1] at this; exact this
  exact h.immc rfl _ _ (idx_lt hi hjs) ((hvs i hi).2.2 j c hj)

/-- The cells of a row, marked as such that never change any more. -/
def Imm.with (I : Imm) (w : World) (g n : Nat) : Imm := fun b o => if b = g ∧ o < n then w.cell? ⟨b, o, none⟩ else I b o
theorem Imm.with_le {I : Imm} {w : World} {g n : Nat} (hI : Imm.ok I w) : Imm.le I (I.with w g n) := by
  intro b o v h
  unfold Imm.with
  split
  · exact hI b o v h
  · exact h
theorem Imm.with_ok {I : Imm} {w : World} {g n : Nat} (hI : Imm.ok I w) : Imm.ok (I.with w g n) w := by
  intro b o v h
  unfold Imm.with at h
  split at h
  · exact h
  · exact hI b o v h
theorem Imm.with_ne {I : Imm} {w : World} {g n b : Nat} (h : b ≠ g) (o : Nat) : (I.with w g n) b o = I b o := if_neg fun e => h e.1

theorem Row.share {M : Nat → Prop} {I : Imm} {w : World} {g : Nat} {sh : Bool} {sz : Nat} {es : List AV} {cap : Nat} (h : Row M I w g sh sz es cap) (hI : Imm.ok I w) : Row M (I.with w g (es.length * sz)) w g true sz es cap where
  le := h.le
  capm := h.capm
  cells := h.cells
  elems i e he := by
    obtain ⟨v, h1, h2, h3⟩ := h.elems i e he
    exact ⟨v, h1.mono (fun _ h => h) (Imm.with_le hI), h2, h3⟩
  immc _ o v ho hv := by
    unfold Imm.with
    rw [if_pos ⟨rfl, ho⟩]; exact hv
  immn o ho := by
    have := ho rfl
    unfold Imm.with
    rw [if_neg (by omega)]
    exact h.immn o fun _ => this
  frz := h.frz

end Go.Proofs.Ytmngjlgeojbghaa.VA
end
section
namespace Go.Proofs.Ytmngjlgeojbghaa.VA

structure Fx where
  C : Cfg
  w0 : World
  I0 : Imm
  S : Nat → Prop
  lv : Nat → Bool
  lk : Nat → Prop
  ds : List Deferred
  a0 : Array Value
  mo : Nat → Prop
def Fx.mine (F : Fx) (b : Nat) : Prop := F.w0.heap.size ≤ b ∨ F.S b

def cellOf (w : World) (j : Nat) : Option Value → Option Value
  | some (.pointer (some p)) => w.cell? ⟨p.block, j, none⟩
  | _ => none
def compOf (j : Nat) : Option Value → Option Value
  | some (.tuple vs) => vs[j]?
  | _ => none
def conc (a : Act) (w : World) : Loc → Option Value
  | .tmp t => a.tmps[t]?
  | .cell k j => cellOf w j a.tmps[k]?
  | .comp t j => compOf j a.tmps[t]?
  | .box _ => none

/-- What stands at a place. -/
def SRep (F : Fx) (I : Imm) (own : Nat → Option Loc) (σ : ASt) (a : Act) (w : World) (l : Loc) : AV → Value → Prop
  | .bot, _ => True
  | .undef, v => v = undef
  | .own sh sz es, v => (v = .slice none 0 0 ∧ es = []) ∨ ∃ g cap, v = .slice (some ⟨g, 0, none⟩) es.length cap ∧ own g = some l ∧ Row F.mo I w g sh sz es cap
  | .ref l', v => ∀ sh sz es, σ.at l' = some (.own sh sz es) → conc a w l' = some v
  | .var k off, v => ∀ cs, look σ.vars k = some cs → ∃ b, a.tmps[k]? = some (.pointer (some ⟨b, 0, none⟩)) ∧ v = .pointer (some ⟨b, off, none⟩)
  | .elt (.ref l') i off, v => ∀ sh sz es, σ.at l' = some (.own sh sz es) → ∃ g n cap, conc a w l' = some (.slice (some ⟨g, 0, none⟩) n cap) ∧ v = .pointer (some ⟨g, i * sz + off, none⟩)
  | .elt (.sl fr sz es) i off, v => ∃ b o n cap, AR F.mo I (.sl fr sz es) (.slice (some ⟨b, o, none⟩) n cap) ∧ v = .pointer (some ⟨b, o + i * sz + off, none⟩)
  | .elt _ _ _, _ => False
  | .tup vs, v => ∃ arr, v = .tuple arr ∧ arr.size = vs.length
  | x, v => AR F.mo I x v

/-- What is locked stays as it was. -/
structure LkOk (F : Fx) (own : Nat → Option Loc) (σ : ASt) (a : Act) (w : World) : Prop where
  stay : ∀ b, F.lk b → w.heap[b]? = F.w0.heap[b]? ∧ ∃ k, own b = some (.box k) ∧ F.lv k = true
  all : ∀ k, F.lv k = true → ∀ cs b, look σ.vars k = some cs → a.tmps[k]? = some (.pointer (some ⟨b, 0, none⟩)) → F.lk b
theorem LkOk.keep {F : Fx} {own own' : Nat → Option Loc} {σ σ' : ASt} {a a' : Act} {w w' : World} (h : LkOk F own σ a w) (ho : ∀ b k, F.lk b → own b = some (.box k) → own' b = some (.box k))
    (hw : ∀ b k, F.lk b → own b = some (.box k) → w'.heap[b]? = w.heap[b]?) (hv : ∀ k cs, look σ'.vars k = some cs → (∃ cs0, look σ.vars k = some cs0) ∧ a'.tmps[k]? = a.tmps[k]?) : LkOk F own' σ' a' w' where
  stay b hb := by
    obtain ⟨h1, k, h2, h3⟩ := h.stay b hb
    exact ⟨by rw [hw b k hb h2]; exact h1, k, ho b k hb h2, h3⟩
  all k hl cs b hk hb := by
    obtain ⟨⟨cs0, e1⟩, e2⟩ := hv k cs hk
    rw [e2] at hb
    exact h.all k hl cs0 b e1 hb

/-- What was put by stands as it stood, and nobody leans on it. -/
structure StOk (n : Nat) (I : Imm) (own : Nat → Option Loc) (w : World) (s : Stash) : Prop where
  ours : ∀ b, s.B b → own b = some (.box n)
  gap : ∀ b o, s.B b → I b o = none
  cells : ∀ b o u, s.L b → s.K b o = some u → w.cell? ⟨b, o, none⟩ = some u ∧ w.frozen? ⟨b, o, none⟩ = false
  top : ∀ b o u, s.L b → s.K b o = some u → s.B b
  low : ∀ b o u, ¬ s.L b → s.K b o = some u → I b o = some u
  sub : ∀ b, s.B b → s.L b
structure StsOk (n : Nat) (I : Imm) (own : Nat → Option Loc) (w : World) (l : List Stash) : Prop where
  ok : ∀ s, s ∈ l → StOk n I own w s
  apart : l.Pairwise fun s t => ∀ b, s.B b → ¬ t.B b
theorem StsOk.nil {n : Nat} {I : Imm} {own : Nat → Option Loc} {w : World} : StsOk n I own w [] := ⟨fun _ h => (by cases h), List.Pairwise.nil⟩
theorem StsOk.sub {n : Nat} {I : Imm} {own : Nat → Option Loc} {w : World} {l l' : List Stash} (h : StsOk n I own w l) (hs : l'.Sublist l) : StsOk n I own w l' := ⟨fun s hm => h.ok s (hs.subset hm), h.apart.sublist hs⟩
theorem StsOk.step {n : Nat} {I I' : Imm} {own own' : Nat → Option Loc} {w w' : World} {l : List Stash} (h : StsOk n I own w l) (hle : ∀ b o u, I b o = some u → I' b o = some u)
    (hI : ∀ b, own b = some (.box n) → ∀ o, I b o = none → I' b o = none) (ho : ∀ b, own b = some (.box n) → own' b = some (.box n)) (hw : ∀ b, own b = some (.box n) → w'.heap[b]? = w.heap[b]?) : StsOk n I' own' w' l := by
  refine ⟨fun s hs => ?_, h.apart⟩
  have k := h.ok s hs
  refine ⟨fun b h1 => ho b (k.ours b h1), fun b o h1 => hI b (k.ours b h1) o (k.gap b o h1), fun b o u h1 h2 => ?_, k.top, fun b o u h1 h2 => hle b o u (k.low b o u h1 h2), k.sub⟩
  have e := hw b (k.ours b (k.top b o u h1 h2))
  rw [World.cell?_of_block (a := ⟨b, o, none⟩) e, World.frozen?_of_block (a := ⟨b, o, none⟩) e]
  exact k.cells b o u h1 h2

structure RI (F : Fx) (I : Imm) (own : Nat → Option Loc) (σ : ASt) (a : Act) (w : World) : Prop where
  imm : Imm.ok I w
  base : Imm.le F.I0 I
  inew : ∀ b o v, I b o = some v → F.I0 b o = some v ∨ F.mine b
  fr : Fr F.w0 w F.S
  mko : ∀ b, F.mine b → F.mo b
  mine : ∀ b l, own b = some l → F.mine b ∧ b < w.heap.size
  defs : a.defers = F.ds ∧ ∀ t, F.C.fix.contains t = true → a.tmps[t]? = F.a0[t]?
  size : a.tmps.size = F.C.n
  slots : ∀ l x, σ.at l = some x → ∃ v, conc a w l = some v ∧ SRep F I own σ a w l x v
  boxes : ∀ k cs, look σ.vars k = some cs → ∃ b, a.tmps[k]? = some (.pointer (some ⟨b, 0, none⟩)) ∧ own b = some (.box k) ∧ (∀ o, I b o = none) ∧
    ∀ j, j < cs.length → ∃ v, w.cell? ⟨b, j, none⟩ = some v ∧ v.oneCell' = true ∧ w.frozen? ⟨b, j, none⟩ = false
  quiet : ∀ l x, σ.at l = some x → (∀ t, l ≠ .tmp t) → (∀ l', x.leans l' = false) ∧ ∀ k, x.leansVar k = false
  lk : LkOk F own σ a w
  st : StsOk F.C.n I own w σ.st

theorem box_real {F : Fx} {I : Imm} {own : Nat → Option Loc} {σ : ASt} {a : Act} {w : World} (h : RI F I own σ a w) {b k : Nat} (e : own b = some (.box k)) {v : Value} (hb : a.tmps[k]? = some v) : own b ≠ some (.box F.C.n) := by
  intro e2
  rw [e] at e2
  cases e2
  have h1 := (Array.getElem?_eq_some_iff.1 hb).1
  rw [h.size] at h1
  exact Nat.lt_irrefl _ h1
theorem srep_imm {F : Fx} {I : Imm} {own : Nat → Option Loc} {σ : ASt} {a : Act} {w : World} {l : Loc} {x : AV} {v : Value} (hx : x.isImm = true) : SRep F I own σ a w l x v ↔ AR F.mo I x v := by
  cases x <;> first | exact Iff.rfl | (simp [AV.isImm] at hx)

theorem SRep.keep {F : Fx} {I J : Imm} {own own' : Nat → Option Loc} {σ σ' : ASt} {a a' : Act} {w w' : World} {l : Loc} {x : AV} {v : Value} (h : SRep F I own σ a w l x v)
    (hI : Imm.le I J)
    (hrow : ∀ g sh sz es cap, x = .own sh sz es → own g = some l → Row F.mo I w g sh sz es cap → own' g = some l ∧ Row F.mo J w' g sh sz es cap)
    (href : ∀ l', x.leans l' = true → ∀ sh sz es, σ'.at l' = some (.own sh sz es) → (∃ sh' es', σ.at l' = some (.own sh' sz es')) ∧ conc a' w' l' = conc a w l')
    (hvar : ∀ k off, x = .var k off → ∀ cs, look σ'.vars k = some cs → (∃ cs0, look σ.vars k = some cs0) ∧ a'.tmps[k]? = a.tmps[k]?) :
    SRep F J own' σ' a' w' l x v := by
  have him : x.isImm = true → SRep F J own' σ' a' w' l x v := fun hx => (srep_imm hx).2 (((srep_imm hx).1 h).mono (fun _ h => h) hI)
  cases x with
  | bot => trivial
  | undef => exact h
  | own sh sz es =>
    rcases h with h | ⟨g, cap, h1, h2, h3⟩
    · exact .inl h
    · obtain ⟨h4, h5⟩ := hrow g sh sz es cap rfl h2 h3
      exact .inr ⟨g, cap, h1, h4, h5⟩
  | ref l' =>
    intro sh sz es he
    obtain ⟨⟨sh', es', h1⟩, h2⟩ := href l' (by simp [AV.leans]) sh sz es he
    rw [h2]
    exact h sh' sz es' h1
  | var k off =>
    intro cs hk
    obtain ⟨⟨cs0, h1⟩, h2⟩ := hvar k off rfl cs hk
    rw [h2]
    exact h cs0 h1
  | elt y i off =>
    cases y with
    | ref l' =>
      intro sh sz es he
      obtain ⟨⟨sh', es', h1⟩, h2⟩ := href l' (by simp [AV.leans]) sh sz es he
      rw [h2]
      exact h sh' sz es' h1
    | sl fr sz es =>
      obtain ⟨b, o, n, cap, h1, h2⟩ := h
      exact ⟨b, o, n, cap, h1.mono (fun _ h => h) hI, h2⟩
    | _ => exact h.elim
  | tup vs => exact h
  | bool => exact him rfl
  | int => exact him rfl
  | str => exact him rfl
  | fn => exact him rfl
  | nilf => exact him rfl
  | agg => exact him rfl
  | sl => exact him rfl
  | ext => exact him rfl
  | hd => exact him rfl

section
variable {F : Fx} {I : Imm} {own : Nat → Option Loc} {σ σ' : ASt} {a : Act} {w : World}

/-- To know less. -/
theorem RI.weaken (h : RI F I own σ a w) (hs : ∀ l x, σ'.at l = some x → ∃ x0, σ.at l = some x0 ∧ (x = x0 ∨ x = .bot))
    (hv : ∀ k cs, look σ'.vars k = some cs → ∃ cs0, look σ.vars k = some cs0 ∧ cs0.length = cs.length) (hst : σ'.st.Sublist σ.st := by exact List.Sublist.refl _) : RI F I own σ' a w where
  st := h.st.sub hst
  imm := h.imm
  base := h.base
  inew := h.inew
  fr := h.fr
  mko := h.mko
  mine := h.mine
  defs := h.defs
  size := h.size
  slots l x hx := by
    obtain ⟨x0, h0, rfl | rfl⟩ := hs l x hx
    · obtain ⟨v, hc, hr⟩ := h.slots l x h0
      refine ⟨v, hc, hr.keep (Imm.leRefl I) (fun g sh sz es cap _ h1 h2 => ⟨h1, h2⟩) (fun l' _ sh sz es he => ?_) (fun k off _ cs hk => ?_)⟩
      · obtain ⟨x1, h1, rfl | e⟩ := hs l' _ he
        · exact ⟨⟨sh, es, h1⟩, rfl⟩
        · cases e
      · obtain ⟨cs0, h1, _⟩ := hv k cs hk
        exact ⟨⟨cs0, h1⟩, rfl⟩
    · obtain ⟨v, hc, _⟩ := h.slots l x0 h0
      exact ⟨v, hc, trivial⟩
  boxes k cs hk := by
    obtain ⟨cs0, h0, hl⟩ := hv k cs hk
    obtain ⟨b, h1, h2, h3, h4⟩ := h.boxes k cs0 h0
    exact ⟨b, h1, h2, h3, fun j hj => h4 j (by omega)⟩
  quiet l x hx hl := by
    obtain ⟨x0, h0, rfl | rfl⟩ := hs l x hx
    · exact h.quiet l x h0 hl
    · exact ⟨fun _ => rfl, fun _ => rfl⟩
  lk := h.lk.keep (fun _ _ _ h => h) (fun _ _ _ _ => rfl) fun k cs hk => by
    obtain ⟨cs0, h0, _⟩ := hv k cs hk
    exact ⟨⟨cs0, h0⟩, rfl⟩

theorem at_strike (p : AV → Bool) (σ : ASt) (l : Loc) (x : AV) (h : ASt.at { σ with tmps := strike p σ.tmps } l = some x) : ∃ x0, σ.at l = some x0 ∧ (x = x0 ∨ x = .bot) := by
  cases l with
  | tmp t =>
    simp only [ASt.at, look_strike] at h ⊢
    cases hl : look σ.tmps t with
    | none => rw [hl] at h; cases h
    | some y =>
      rw [hl] at h
      simp only [Option.map_some, Option.some.injEq] at h
      refine ⟨y, rfl, ?_⟩
      by_cases hy : p y = true
      · rw [if_pos hy] at h; exact .inr h.symm
      · rw [if_neg hy] at h; exact .inl h.symm
  | cell k j => exact ⟨x, h, .inl rfl⟩
  | comp t j =>
    simp only [ASt.at, look_strike] at h ⊢
    cases hl : look σ.tmps t with
    | none => rw [hl] at h; simp [AV.compAt] at h
    | some y =>
      rw [hl] at h
      simp only [Option.map_some] at h
      by_cases hy : p y = true
      · rw [if_pos hy] at h; simp [AV.compAt] at h
      · rw [if_neg hy] at h; exact ⟨x, h, .inl rfl⟩
  | box k => cases h

theorem RI.strike (h : RI F I own σ a w) (p : AV → Bool) : RI F I own { σ with tmps := VA.strike p σ.tmps } a w :=
  h.weaken (at_strike p σ) fun _ cs hk => ⟨cs, hk, rfl⟩

theorem RI.keep (h : RI F I own σ a w) (ks : List Nat) : RI F I own (σ.keep ks) a w := by
  refine h.weaken (fun l x hx => ?_) (fun k cs hk => ⟨cs, (look_keepV ks _ k cs hk).1, rfl⟩)
  cases l with
  | tmp t => exact ⟨x, (look_keepL _ _ _ _ hx).1, .inl rfl⟩
  | cell k j =>
    simp only [ASt.at, ASt.keep] at hx ⊢
    cases hl : look (keepV ks σ.vars) k with
    | none => rw [hl] at hx; cases hx
    | some cs =>
      rw [hl] at hx
      rw [(look_keepV ks _ k cs hl).1]
      exact ⟨x, hx, .inl rfl⟩
  | comp t j =>
    simp only [ASt.at, ASt.keep] at hx ⊢
    cases hl : look (keepL ks σ.tmps) t with
    | none => rw [hl] at hx; simp [AV.compAt] at hx
    | some y =>
      rw [hl] at hx
      rw [(look_keepL _ _ _ _ hl).1]
      exact ⟨x, hx, .inl rfl⟩
  | box k => cases hx

theorem look_put (σ : ASt) (t : Nat) (x : AV) (j : Nat) : look (σ.put t x).tmps j = if j = t then some x else look σ.tmps j := look_ins t x σ.tmps j
theorem at_put_ne (σ : ASt) (t : Nat) (x : AV) (l : Loc) (h1 : l ≠ .tmp t) (h2 : ∀ j, l ≠ .comp t j) : (σ.put t x).at l = σ.at l := by
  cases l with
  | tmp j => simp only [ASt.at, look_put]; rw [if_neg (fun e : j = t => h1 (by rw [e]))]
  | cell k j => rfl
  | comp j i => simp only [ASt.at, look_put]; rw [if_neg (fun e : j = t => h2 i (by rw [e]))]
  | box k => rfl
theorem conc_put_ne (a : Act) (w : World) (t : Nat) (v : Value) (l : Loc) (h1 : l ≠ .tmp t) (h2 : ∀ j, l ≠ .comp t j) (h3 : ∀ j, l ≠ .cell t j) : conc (a.put (some t) v) w l = conc a w l := by
  cases l with
  | tmp j =>
    have : t ≠ j := fun e => h1 (e ▸ rfl)
    simp [conc, Act.put, Array.getElem?_setIfInBounds_ne this]
  | cell k j =>
    have : t ≠ k := fun e => h3 j (e ▸ rfl)
    simp [conc, Act.put, Array.getElem?_setIfInBounds_ne this]
  | comp k j =>
    have : t ≠ k := fun e => h2 j (e ▸ rfl)
    simp [conc, Act.put, Array.getElem?_setIfInBounds_ne this]
  | box k => rfl
theorem tmp_put_ne (a : Act) (t k : Nat) (v : Value) (h : k ≠ t) : (a.put (some t) v).tmps[k]? = a.tmps[k]? := by
  simp [Act.put, Array.getElem?_setIfInBounds_ne (Ne.symm h)]
theorem tmp_put_same (a : Act) (t : Nat) (v : Value) (h : t < a.tmps.size) : (a.put (some t) v).tmps[t]? = some v := by
  simp [Act.put, h]

theorem may_lt {C : Cfg} {t : Nat} (h : C.may t = true) : t < C.n := by
  simp only [Cfg.may, Bool.and_eq_true, decide_eq_true_eq] at h; exact h.1
theorem may_fix {C : Cfg} {t : Nat} (h : C.may t = true) : C.fix.contains t = false := by
  simp only [Cfg.may, Bool.and_eq_true, Bool.not_eq_true'] at h; exact h.2
theorem defs_put {F : Fx} {a : Act} {t : Nat} {v : Value} (h : a.defers = F.ds ∧ ∀ s, F.C.fix.contains s = true → a.tmps[s]? = F.a0[s]?) (ht : F.C.may t = true) :
    (a.put (some t) v).defers = F.ds ∧ ∀ s, F.C.fix.contains s = true → (a.put (some t) v).tmps[s]? = F.a0[s]? :=
  ⟨h.1, fun s hs => by rw [tmp_put_ne a t s v (fun e => by rw [e, may_fix ht] at hs; cases hs)]; exact h.2 s hs⟩
/-- A temporary is written. -/
theorem RI.put (h : RI F I own σ a w) {t : Nat} (ht : F.C.may t = true) (hv : look σ.vars t = none) {x : AV} {v : Value} (hx1 : ∀ sh sz es, x ≠ .own sh sz es) (hx2 : ∀ vs, x ≠ .tup vs)
    (hr : SRep F I own σ a w (.tmp t) x v) : RI F I own (σ.put t x) (a.put (some t) v) w := by
  have hsz : t < a.tmps.size := by rw [h.size]; exact may_lt ht
  have hk : ∀ k cs, look σ.vars k = some cs → k ≠ t := fun k cs hk e => by rw [e, hv] at hk; cases hk
  have hown : ∀ l sh sz es, (σ.put t x).at l = some (.own sh sz es) → l ≠ .tmp t ∧ (∀ j, l ≠ .comp t j) ∧ (∀ j, l ≠ .cell t j) := by
    intro l sh sz es he
    refine ⟨fun e => ?_, fun j e => ?_, fun j e => ?_⟩
    · subst e; simp only [ASt.at, look_put, if_true, Option.some.injEq] at he; exact hx1 _ _ _ he
    · subst e; simp only [ASt.at, look_put, if_true] at he
      cases x <;> simp [AV.compAt] at he
      exact hx2 _ rfl
    · subst e; simp only [ASt.at] at he
      have : look (σ.put t x).vars t = none := hv
      rw [this] at he; cases he
  have key : ∀ {l y v'}, SRep F I own σ a w l y v' → SRep F I own (σ.put t x) (a.put (some t) v) w l y v' := by
    intro l y v' hy
    refine hy.keep (Imm.leRefl I) (fun g sh sz es cap _ h1 h2 => ⟨h1, h2⟩) (fun l' _ sh sz es he => ?_) (fun k off _ cs hc => ?_)
    · obtain ⟨h1, h2, h3⟩ := hown l' sh sz es he
      rw [at_put_ne σ t x l' h1 h2] at he
      exact ⟨⟨sh, es, he⟩, conc_put_ne a w t v l' h1 h2 h3⟩
    · exact ⟨⟨cs, hc⟩, tmp_put_ne a t k v (hk k cs hc)⟩
  exact {
    st := h.st
    imm := h.imm
    base := h.base
    inew := h.inew
    fr := h.fr
    mko := h.mko
    mine := h.mine
    defs := defs_put h.defs ht
    size := by simp [Act.put, h.size]
    slots := by
      intro l y hy
      by_cases h1 : l = .tmp t
      · subst h1
        simp only [ASt.at, look_put, if_true, Option.some.injEq] at hy
        subst hy
        exact ⟨v, tmp_put_same a t v hsz, key hr⟩
      · by_cases h2 : ∃ j, l = .comp t j
        · obtain ⟨j, rfl⟩ := h2
          simp only [ASt.at, look_put, if_true] at hy
          cases x <;> simp [AV.compAt] at hy
          exact absurd rfl (hx2 _)
        · have h2' : ∀ j, l ≠ .comp t j := fun j e => h2 ⟨j, e⟩
          rw [at_put_ne σ t x l h1 h2'] at hy
          obtain ⟨v', hc, hr'⟩ := h.slots l y hy
          refine ⟨v', ?_, key hr'⟩
          rw [conc_put_ne a w t v l h1 h2' fun j e => ?_]
          · exact hc
          · subst e
            simp only [ASt.at, hv, cellAt] at hy
            cases hy
    boxes := by
      intro k cs hc
      obtain ⟨b, h1, h2, h3, h4⟩ := h.boxes k cs hc
      exact ⟨b, by rw [tmp_put_ne a t k v (hk k cs hc)]; exact h1, h2, h3, h4⟩
    quiet := by
      intro l y hy hl
      by_cases h2 : ∃ j, l = .comp t j
      · obtain ⟨j, rfl⟩ := h2
        simp only [ASt.at, look_put, if_true] at hy
        cases x <;> simp [AV.compAt] at hy
        exact absurd rfl (hx2 _)
      · rw [at_put_ne σ t x l (hl t) fun j e => h2 ⟨j, e⟩] at hy
        exact h.quiet l y hy hl
    lk := h.lk.keep (fun _ _ _ h => h) (fun _ _ _ _ => rfl) fun k cs hc => ⟨⟨cs, hc⟩, tmp_put_ne a t k v (hk k cs hc)⟩ }

/-- A row that no place holds. -/
def Free (σ : ASt) (own : Nat → Option Loc) (g : Nat) : Prop :=
  ∀ l, own g = some l → (∀ sh sz es, σ.at l ≠ some (.own sh sz es)) ∧ ∀ k, l ≠ .box k
/-- A block that no place holds, and no variable any more. -/
def FreeW (σ : ASt) (own : Nat → Option Loc) (g : Nat) : Prop :=
  ∀ l, own g = some l → (∀ sh sz es, σ.at l ≠ some (.own sh sz es)) ∧ ∀ k, l = .box k → look σ.vars k = none
theorem Free.toW {σ : ASt} {own : Nat → Option Loc} {g : Nat} (h : Free σ own g) : FreeW σ own g := fun l hl => ⟨(h l hl).1, fun k e => ((h l hl).2 k e).elim⟩

/-- A row in hand: at no place. -/
def Hand (F : Fx) (I : Imm) (own : Nat → Option Loc) (σ : ASt) (w : World) (sh : Bool) (sz : Nat) (es : List AV) (v : Value) : Prop :=
  (v = .slice none 0 0 ∧ es = []) ∨ ∃ g cap, v = .slice (some ⟨g, 0, none⟩) es.length cap ∧ Free σ own g ∧ F.mine g ∧ g < w.heap.size ∧ Row F.mo I w g sh sz es cap

def giveTo (own : Nat → Option Loc) (v : Value) (l : Loc) : Nat → Option Loc :=
  match v with
  | .slice (some p) _ _ => fun b => if b = p.block then some l else own b
  | _ => own

theorem leans_tup (l : Loc) (vs : List AV) : AV.leans l (.tup vs) = false := rfl
theorem leansVar_tup (k : Nat) (vs : List AV) : AV.leansVar k (.tup vs) = false := rfl
theorem leansComp_tup (k : Nat) (vs : List AV) : AV.leansComp k (.tup vs) = false := rfl

/-- What leans on the place l no more. -/
theorem strike_leans {l : Loc} {σ : ASt} {t : Nat} {y : AV} (h : look (VA.strike (AV.leans l) σ.tmps) t = some y) : y.leans l = false := by
  rw [look_strike] at h
  cases hl : look σ.tmps t with
  | none => rw [hl] at h; cases h
  | some x =>
    rw [hl] at h
    simp only [Option.map_some, Option.some.injEq] at h
    by_cases hx : x.leans l = true
    · rw [if_pos hx] at h; subst h; rfl
    · rw [if_neg hx] at h; subst h; simpa using hx

theorem giveTo_nil (own : Nat → Option Loc) (n c : Nat) (l : Loc) : giveTo own (.slice none n c) l = own := rfl
theorem giveTo_ne (own : Nat → Option Loc) (g n c : Nat) (l : Loc) (b : Nat) (h : b ≠ g) : giveTo own (.slice (some ⟨g, 0, none⟩) n c) l b = own b := if_neg h
theorem giveTo_same (own : Nat → Option Loc) (g n c : Nat) (l : Loc) : giveTo own (.slice (some ⟨g, 0, none⟩) n c) l g = some l := if_pos rfl

/-- A row in hand is given to a place; who stands elsewhere keeps what he has. -/
theorem hand_keep {sh : Bool} {sz : Nat} {es : List AV} {v : Value} (hh : Hand F I own σ w sh sz es v) (l l' : Loc) (g : Nat) (hg : own g = some l')
    (hl : (∃ sh sz es, σ.at l' = some (.own sh sz es)) ∨ ∃ k cs, l' = .box k ∧ look σ.vars k = some cs) : giveTo own v l g = some l' := by
  rcases hh with ⟨rfl, _⟩ | ⟨g0, cap, rfl, hf, _⟩
  · exact hg
  · rw [giveTo_ne own g0 _ _ l g]
    · exact hg
    · intro e
      subst e
      obtain ⟨h1, h2⟩ := hf l' hg
      rcases hl with ⟨sh, sz, es, hl⟩ | ⟨k, cs, rfl, hl⟩
      · exact h1 sh sz es hl
      · exact h2 k rfl
theorem hand_box {sh : Bool} {sz : Nat} {es : List AV} {v : Value} (hh : Hand F I own σ w sh sz es v) (l : Loc) (b k : Nat) (hb : own b = some (.box k)) : giveTo own v l b = some (.box k) := by
  rcases hh with ⟨rfl, _⟩ | ⟨g0, cap, rfl, hf, _⟩
  · exact hb
  · rw [giveTo_ne own g0 _ _ l b]
    · exact hb
    · intro e; subst e; exact (hf _ hb).2 k rfl
theorem hand_mine {sh : Bool} {sz : Nat} {es : List AV} {v : Value} (h : RI F I own σ a w) (hh : Hand F I own σ w sh sz es v) (l : Loc) (b : Nat) (l' : Loc) (hb : giveTo own v l b = some l') : F.mine b ∧ b < w.heap.size := by
  rcases hh with ⟨rfl, _⟩ | ⟨g0, cap, rfl, hf, h1, h2, _⟩
  · exact h.mine b l' hb
  · by_cases e : b = g0
    · subst e; exact ⟨h1, h2⟩
    · rw [giveTo_ne own g0 _ _ l b e] at hb
      exact h.mine b l' hb
theorem hand_srep {sh : Bool} {sz : Nat} {es : List AV} {v : Value} (hh : Hand F I own σ w sh sz es v) (l : Loc) {σ' : ASt} {a' : Act} : SRep F I (giveTo own v l) σ' a' w l (.own sh sz es) v := by
  rcases hh with h | ⟨g0, cap, rfl, hf, h1, h2, hr⟩
  · exact .inl h
  · exact .inr ⟨g0, cap, rfl, giveTo_same own g0 _ _ l, hr⟩

/-- A temporary is given a row. -/
theorem RI.putOwn (h0 : RI F I own σ a w) {t : Nat} (ht : F.C.may t = true) (hv : look σ.vars t = none) {sh : Bool} {sz : Nat} {es : List AV} {v : Value}
    (hh0 : Hand F I own σ w sh sz es v) : RI F I (giveTo own v (.tmp t)) (σ.putOwn t (.own sh sz es)) (a.put (some t) v) w := by
  have h := h0.strike (AV.leans (.tmp t))
  have hh : Hand F I own { σ with tmps := VA.strike (AV.leans (.tmp t)) σ.tmps } w sh sz es v := by
    rcases hh0 with h1 | ⟨g0, cap, rfl, hf, h1, h2, hr⟩
    · exact .inl h1
    · refine .inr ⟨g0, cap, rfl, fun l hl => ⟨fun sh sz es he => ?_, (hf l hl).2⟩, h1, h2, hr⟩
      obtain ⟨x0, e0, rfl | e1⟩ := at_strike _ σ l _ he
      · exact (hf l hl).1 _ _ _ e0
      · cases e1
  have hnl : ∀ l y, ASt.at { σ with tmps := VA.strike (AV.leans (.tmp t)) σ.tmps } l = some y → y.leans (.tmp t) = false := by
    intro l y hy
    by_cases e : ∃ j, l = .tmp j
    · obtain ⟨j, rfl⟩ := e; exact strike_leans hy
    · exact (h.quiet l y hy fun j e' => e ⟨j, e'⟩).1 _
  show RI F I (giveTo own v (.tmp t)) (ASt.put { σ with tmps := VA.strike (AV.leans (.tmp t)) σ.tmps } t (.own sh sz es)) (a.put (some t) v) w
  generalize hσ : ({ σ with tmps := VA.strike (AV.leans (.tmp t)) σ.tmps } : ASt) = σ1 at *
  have hv1 : look σ1.vars t = none := by rw [← hσ]; exact hv
  clear h0 hh0 hσ hv
  have hsz : t < a.tmps.size := by rw [h.size]; exact may_lt ht
  have hk : ∀ k cs, look σ1.vars k = some cs → k ≠ t := fun k cs hk e => by rw [e, hv1] at hk; cases hk
  have hat : ∀ l y, (σ1.put t (.own sh sz es)).at l = some y → l ≠ .tmp t → σ1.at l = some y ∧ (∀ j, l ≠ .comp t j) ∧ (∀ j, l ≠ .cell t j) := by
    intro l y hy h1
    have h2 : ∀ j, l ≠ .comp t j := by
      intro j e; subst e
      simp only [ASt.at, look_put, if_true, AV.compAt] at hy; cases hy
    rw [at_put_ne σ1 t _ l h1 h2] at hy
    refine ⟨hy, h2, fun j e => ?_⟩
    subst e
    simp only [ASt.at, hv1, cellAt] at hy; cases hy
  exact {
    st := h.st.step (fun _ _ _ h => h) (fun _ _ _ h => h) (fun b hb => hand_box hh _ b _ hb) (fun _ _ => rfl)
    imm := h.imm
    base := h.base
    inew := h.inew
    fr := h.fr
    mko := h.mko
    mine := fun b l hb => hand_mine h hh (.tmp t) b l hb
    defs := defs_put h.defs ht
    size := by simp [Act.put, h.size]
    slots := by
      intro l y hy
      by_cases h1 : l = .tmp t
      · subst h1
        simp only [ASt.at, look_put, if_true, Option.some.injEq] at hy
        subst hy
        exact ⟨v, tmp_put_same a t v hsz, hand_srep hh _⟩
      · obtain ⟨hy', h2, h3⟩ := hat l y hy h1
        obtain ⟨v', hc, hr⟩ := h.slots l y hy'
        refine ⟨v', by rw [conc_put_ne a w t v l h1 h2 h3]; exact hc, hr.keep (Imm.leRefl I) (fun g sh' sz' es' cap e hg hrow => ⟨?_, hrow⟩) (fun l' hl' sh' sz' es' he => ?_) (fun k off _ cs hc => ?_)⟩
        · subst e
          exact hand_keep hh _ l g hg (.inl ⟨_, _, _, hy'⟩)
        · have hne : l' ≠ .tmp t := by
            intro e; subst e
            rw [hnl l y hy'] at hl'; cases hl'
          obtain ⟨he', h2', h3'⟩ := hat l' _ he hne
          exact ⟨⟨sh', es', he'⟩, conc_put_ne a w t v l' hne h2' h3'⟩
        · exact ⟨⟨cs, hc⟩, tmp_put_ne a t k v (hk k cs hc)⟩
    boxes := by
      intro k cs hc
      obtain ⟨b, h1, h2, h3, h4⟩ := h.boxes k cs hc
      exact ⟨b, by rw [tmp_put_ne a t k v (hk k cs hc)]; exact h1, hand_keep hh _ _ b h2 (.inr ⟨k, cs, rfl, hc⟩), h3, h4⟩
    quiet := by
      intro l y hy hl
      exact h.quiet l y (hat l y hy (hl t)).1 hl
    lk := h.lk.keep (fun b k _ hb => hand_box hh _ b k hb) (fun _ _ _ _ => rfl) fun k cs hc => ⟨⟨cs, hc⟩, tmp_put_ne a t k v (hk k cs hc)⟩ }

/-- A place gives up its row. -/
theorem RI.drop (h : RI F I own σ a w) (l : Loc) : RI F I own (σ.drop l) a w ∨ ∃ t, l = .tmp t ∧ look σ.tmps t = none := by
  cases l with
  | tmp t =>
    cases hl : look σ.tmps t with
    | none => exact .inr ⟨t, rfl, hl⟩
    | some x0 =>
      refine .inl (h.weaken (fun l x hx => ?_) fun _ cs hk => ⟨cs, hk, rfl⟩)
      by_cases h1 : l = .tmp t
      · subst h1
        simp only [ASt.drop, ASt.at, look_put, if_true, Option.some.injEq] at hx
        exact ⟨x0, hl, .inr hx.symm⟩
      · by_cases h2 : ∃ j, l = .comp t j
        · obtain ⟨j, rfl⟩ := h2
          simp only [ASt.drop, ASt.at, look_put, if_true, AV.compAt] at hx; cases hx
        · have : (σ.put t .bot).at l = σ.at l := at_put_ne σ t _ l h1 fun j e => h2 ⟨j, e⟩
          exact ⟨x, this ▸ hx, .inl rfl⟩
  | cell k j =>
    refine .inl ?_
    cases hk : look σ.vars k with
    | none => simp only [ASt.drop, ASt.setCell, hk, ASt.setCellO]; exact h
    | some cs =>
      simp only [ASt.drop, ASt.setCell, hk, ASt.setCellO]
      refine h.weaken (fun l x hx => ?_) fun k' cs' hk' => ?_
      · cases l with
        | cell k' j' =>
          simp only [ASt.at, look_ins] at hx ⊢
          by_cases e : k' = k
          · subst e
            simp only [if_true, cellAt, hk] at hx ⊢
            rw [List.getElem?_set] at hx
            split at hx
            · split at hx
              · rename_i e1 e2
                subst e1
                exact ⟨cs[j], List.getElem?_eq_getElem e2, .inr (Option.some.inj hx).symm⟩
              · cases hx
            · exact ⟨x, hx, .inl rfl⟩
          · simp only [e, if_false] at hx
            exact ⟨x, hx, .inl rfl⟩
        | tmp t => exact ⟨x, hx, .inl rfl⟩
        | comp t j => exact ⟨x, hx, .inl rfl⟩
        | box k => cases hx
      · rw [look_ins] at hk'
        by_cases e : k' = k
        · subst e
          simp only [if_true, Option.some.injEq] at hk'
          subst hk'
          exact ⟨cs, hk, by simp⟩
        · simp only [e, if_false] at hk'
          exact ⟨cs', hk', rfl⟩
  | comp t j =>
    refine .inl ?_
    cases ht : look σ.tmps t with
    | none => simp only [ASt.drop, ht, ASt.dropComp]; exact h
    | some y =>
      cases y with
      | tup vs =>
        simp only [ASt.drop, ht, ASt.dropComp]
        -- the tuple itself bears no less
        have hw : ∀ l x, ASt.at { σ with tmps := ins t (.tup (vs.set j .bot)) σ.tmps } l = some x → l ≠ .tmp t → ∃ x0, σ.at l = some x0 ∧ (x = x0 ∨ x = .bot) := by
          intro l x hx h1
          cases l with
          | tmp t' =>
            simp only [ASt.at, look_ins] at hx
            rw [if_neg (fun e : t' = t => h1 (by rw [e]))] at hx
            exact ⟨x, hx, .inl rfl⟩
          | cell k j => exact ⟨x, hx, .inl rfl⟩
          | comp t' j' =>
            simp only [ASt.at, look_ins] at hx ⊢
            by_cases e : t' = t
            · subst e
              simp only [if_true, AV.compAt, ht] at hx ⊢
              rw [List.getElem?_set] at hx
              split at hx
              · split at hx
                · rename_i e1 e2
                  subst e1
                  exact ⟨vs[j], List.getElem?_eq_getElem e2, .inr (Option.some.inj hx).symm⟩
                · cases hx
              · exact ⟨x, hx, .inl rfl⟩
            · simp only [e, if_false] at hx
              exact ⟨x, hx, .inl rfl⟩
          | box k => cases hx
        exact {
          st := h.st
          imm := h.imm
          base := h.base
          inew := h.inew
          fr := h.fr
          mko := h.mko
          mine := h.mine
          defs := h.defs
          size := h.size
          boxes := h.boxes
          slots := by
            intro l x hx
            by_cases h1 : l = .tmp t
            · subst h1
              simp only [ASt.at, look_ins, if_true, Option.some.injEq] at hx
              subst hx
              obtain ⟨v, hc, arr, h2, h3⟩ := h.slots (.tmp t) _ ht
              exact ⟨v, hc, arr, h2, by rw [h3]; simp⟩
            · obtain ⟨x0, e0, rfl | rfl⟩ := hw l x hx h1
              · obtain ⟨v, hc, hr⟩ := h.slots l x e0
                refine ⟨v, hc, hr.keep (Imm.leRefl I) (fun g sh sz es cap _ h1 h2 => ⟨h1, h2⟩) (fun l' _ sh sz es he => ?_) (fun k off _ cs hk => ⟨⟨cs, hk⟩, rfl⟩)⟩
                have hne : l' ≠ .tmp t := by
                  intro e; subst e
                  simp only [ASt.at, look_ins, if_true] at he; cases he
                obtain ⟨x1, e1, rfl | e2⟩ := hw l' _ he hne
                · exact ⟨⟨sh, es, e1⟩, rfl⟩
                · cases e2
              · obtain ⟨v, hc, _⟩ := h.slots l x0 e0
                exact ⟨v, hc, trivial⟩
          quiet := by
            intro l x hx hl
            obtain ⟨x0, e0, rfl | rfl⟩ := hw l x hx (hl t)
            · exact h.quiet l x e0 hl
            · exact ⟨fun _ => rfl, fun _ => rfl⟩
          lk := h.lk.keep (fun _ _ _ h => h) (fun _ _ _ _ => rfl) fun k cs hk => ⟨⟨cs, hk⟩, rfl⟩ }
      | _ => simp only [ASt.drop, ht, ASt.dropComp]; exact h
  | box k => exact .inl h

/-- The row that a place held, in hand. -/
theorem RI.inHand (h : RI F I own σ a w) {l : Loc} {sh : Bool} {sz : Nat} {es : List AV} (hl : σ.at l = some (.own sh sz es)) :
    ∃ v, conc a w l = some v ∧ RI F I own (σ.drop l) a w ∧ Hand F I own (σ.drop l) w sh sz es v := by
  obtain ⟨v, hc, hr⟩ := h.slots l _ hl
  have hd : RI F I own (σ.drop l) a w := by
    rcases h.drop l with hd | ⟨t, rfl, ht⟩
    · exact hd
    · simp only [ASt.at] at hl; rw [ht] at hl; cases hl
  refine ⟨v, hc, hd, ?_⟩
  rcases hr with hn | ⟨g, cap, rfl, hg, hrow⟩
  · exact .inl hn
  · refine .inr ⟨g, cap, rfl, fun l' hl' => ?_, (h.mine g l hg).1, (h.mine g l hg).2, hrow⟩
    rw [hg] at hl'
    cases hl'
    refine ⟨fun sh' sz' es' he => ?_, fun k e => ?_⟩
    · cases l with
      | tmp t => simp only [ASt.drop, ASt.at, look_put, if_true] at he; cases he
      | cell k j =>
        simp only [ASt.at] at hl
        cases hk : look σ.vars k with
        | none => rw [hk] at hl; cases hl
        | some cs =>
          rw [hk] at hl
          simp only [ASt.drop, ASt.setCell, hk, ASt.setCellO, ASt.at, look_ins, if_true, cellAt] at he hl
          rw [List.getElem?_set] at he
          have := (List.getElem?_eq_some_iff.1 hl).1
          simp [this] at he
      | comp t j =>
        simp only [ASt.at] at hl
        cases ht : look σ.tmps t with
        | none => rw [ht] at hl; cases hl
        | some y =>
          rw [ht] at hl
          cases y <;> simp only [AV.compAt] at hl <;> try cases hl
          rename_i vs
          simp only [ASt.drop, ht, ASt.dropComp, ASt.at, look_ins, if_true, AV.compAt] at he
          rw [List.getElem?_set] at he
          have := (List.getElem?_eq_some_iff.1 hl).1
          simp [this] at he
      | box k => cases hl
    · subst e; cases hl

end
end Go.Proofs.Ytmngjlgeojbghaa.VA
end
section
namespace Go.Proofs.Ytmngjlgeojbghaa.VA

/-- A run of cells of one block is written. -/
structure Wr (w w' : World) (b off : Nat) (vals : List Value) : Prop where
  os : w'.os = w.os
  tape : w'.tape = w.tape
  output : w'.output = w.output
  size : w'.heap.size = w.heap.size
  block : ∀ k, k ≠ b → w'.heap[k]? = w.heap[k]?
  cin : ∀ j, j < vals.length → w'.cell? ⟨b, off + j, none⟩ = vals[j]?
  cout : ∀ o, (o < off ∨ off + vals.length ≤ o) → w'.cell? ⟨b, o, none⟩ = w.cell? ⟨b, o, none⟩
  frz : ∀ x, w'.frozen? x = w.frozen? x
  dom : ∀ k o u, w'.cell? ⟨k, o, none⟩ = some u → ∃ u', w.cell? ⟨k, o, none⟩ = some u'

theorem tape_setCells (b : Nat) : ∀ (vs : List Value) (o : Nat) (w : World), (w.setCells b o vs).tape = w.tape ∧ (w.setCells b o vs).os = w.os ∧ (w.setCells b o vs).output = w.output ∧ (w.setCells b o vs).heap.size = w.heap.size ∧ ∀ k, k ≠ b → (w.setCells b o vs).heap[k]? = w.heap[k]?
  | [], _, _ => ⟨rfl, rfl, rfl, rfl, fun _ _ => rfl⟩
  | v :: r, o, w => by
    obtain ⟨h1, h2, h3, h4, h5⟩ := tape_setCells b r (o + 1) (w.setCell ⟨b, o, none⟩ v)
    refine ⟨h1, h2, h3, by simpa [World.setCells] using h4, fun k hk => ?_⟩
    simp only [World.setCells]
    rw [h5 k hk]
    exact RowKit.Below.heap_setCell w ⟨b, o, none⟩ v k hk

theorem wr_setCells (w : World) (b off : Nat) (vals : List Value) (hc : ∀ j, j < vals.length → (w.cell? ⟨b, off + j, none⟩).isSome = true) : Wr w (w.setCells b off vals) b off vals := by
  obtain ⟨h1, h2, h3, h4, h5⟩ := tape_setCells b vals off w
  refine ⟨h2, h1, h3, h4, h5, fun j hj => ?_, fun o ho => ?_, fun x => World.frozen?_setCells b vals off w x, fun k o u hu => ?_⟩
  · rw [World.cell?_setCells_in b vals off w hc j hj, List.getElem?_eq_getElem hj]
  · exact World.cell?_setCells_out b vals off w ⟨b, o, none⟩ fun _ _ => ho
  · by_cases hk : k = b
    · subst hk
      by_cases hin : off ≤ o ∧ o < off + vals.length
      · have := hc (o - off) (by omega)
        rw [show off + (o - off) = o by omega] at this
        exact Option.isSome_iff_exists.1 this
      · rw [World.cell?_setCells_out k vals off w ⟨k, o, none⟩ fun _ _ => by show o < off ∨ off + vals.length ≤ o; omega] at hu
        exact ⟨u, hu⟩
    · rw [World.cell?_of_block (a := ⟨k, o, none⟩) (h5 k hk)] at hu
      exact ⟨u, hu⟩

theorem Wr.cell_ne {w w' : World} {b off : Nat} {vals : List Value} (h : Wr w w' b off vals) {k : Nat} (hk : k ≠ b) (o : Nat) : w'.cell? ⟨k, o, none⟩ = w.cell? ⟨k, o, none⟩ :=
  World.cell?_of_block (h.block k hk)

theorem putAt_get (cs new : List AV) (off j : Nat) (h : off + new.length ≤ cs.length) : (putAt cs off new)[j]? = if off ≤ j ∧ j < off + new.length then new[j - off]? else cs[j]? := by
  unfold putAt
  have hl : (cs.take off).length = off := by simp; omega
  by_cases h1 : j < off
  · rw [if_neg (by omega), List.append_assoc, List.getElem?_append_left (by omega), List.getElem?_take_of_lt h1]
  · by_cases h2 : j < off + new.length
    · rw [if_pos ⟨by omega, h2⟩, List.append_assoc, List.getElem?_append_right (by omega), hl, List.getElem?_append_left (by omega)]
    · rw [if_neg (by omega), List.getElem?_append_right (by simp [hl]; omega), List.getElem?_drop]
      congr 1
      simp [hl]; omega
theorem putAt_length (cs new : List AV) (off : Nat) (h : off + new.length ≤ cs.length) : (putAt cs off new).length = cs.length := by
  unfold putAt; simp; omega

section
variable {F : Fx} {I : Imm} {own : Nat → Option Loc} {σ : ASt} {a : Act} {w w' : World}

theorem fr_trans {w0 w w' : World} {p : Nat → Prop} (h : Fr w0 w p) (hos : w'.os = w.os) (ht : w'.tape = w.tape) (ho : w'.output = w.output) (hs : w.heap.size ≤ w'.heap.size)
    (hb : ∀ k, k < w0.heap.size → ¬ p k → w'.heap[k]? = w.heap[k]?)
    (hn : ∀ k o u, w'.cell? ⟨k, o, none⟩ = some u → ((∃ u', w.cell? ⟨k, o, none⟩ = some u') ∧ w'.frozen? ⟨k, o, none⟩ = w.frozen? ⟨k, o, none⟩) ∨ (w.heap.size ≤ k ∧ w'.frozen? ⟨k, o, none⟩ = false)) : Fr w0 w' p :=
  ⟨hos.trans h.os, ht.trans h.tape, ho.trans h.output, Nat.le_trans h.size hs, fun k hk hp => (hb k hk hp).trans (h.block k hk hp), fun k o u hu => by
    rcases hn k o u hu with ⟨⟨u', h1⟩, h2⟩ | ⟨h1, h2⟩
    · rcases h.new k o u' h1 with ⟨h3, h4⟩ | ⟨h3, h4⟩
      · exact .inl ⟨h3, h2.trans h4⟩
      · exact .inr ⟨h3, h2.trans h4⟩
    · exact .inr ⟨Nat.le_trans h.size h1, h2⟩⟩
theorem fr_refl (w : World) (p : Nat → Prop) : Fr w w p := ⟨rfl, rfl, rfl, Nat.le_refl _, fun _ _ _ => rfl, fun k o u hu => .inl ⟨⟨u, hu⟩, rfl⟩⟩

/-- New blocks, draws: all that was there is as it was. -/
theorem RI.grow (h : RI F I own σ a w) (hw : Fr w w' fun _ => False) : RI F I own σ a w' := by
  have hc : ∀ b o, b < w.heap.size → w'.cell? ⟨b, o, none⟩ = w.cell? ⟨b, o, none⟩ := fun b o hb => World.cell?_of_block (hw.block b hb id)
  have hf : ∀ b o, b < w.heap.size → w'.frozen? ⟨b, o, none⟩ = w.frozen? ⟨b, o, none⟩ := fun b o hb => World.frozen?_of_block (hw.block b hb id)
  have hlt : ∀ {b o v}, w.cell? ⟨b, o, none⟩ = some v → b < w.heap.size := fun h => World.block_lt_of_cell? w _ h
  have hconc : ∀ l v, conc a w l = some v → conc a w' l = some v := by
    intro l v hl
    cases l with
    | cell k j =>
      simp only [conc, cellOf] at hl ⊢
      split at hl
      · rename_i p hp
        rw [hc p.block j (hlt hl)]; exact hl
      · cases hl
    | _ => exact hl
  exact {
    st := h.st.step (fun _ _ _ h => h) (fun _ _ _ h => h) (fun _ h => h) (fun b hb => hw.block b (h.mine b _ hb).2 id)
    imm := fun b o v hI => by rw [hc b o (hlt (h.imm b o v hI))]; exact h.imm b o v hI
    base := h.base
    inew := h.inew
    fr := fr_trans h.fr hw.os hw.tape hw.output hw.size (fun k hk _ => hw.block k (Nat.lt_of_lt_of_le hk h.fr.size) id) hw.new
    mko := h.mko
    mine := fun b l hb => ⟨(h.mine b l hb).1, Nat.lt_of_lt_of_le (h.mine b l hb).2 hw.size⟩
    defs := h.defs
    size := h.size
    slots := by
      intro l x hx
      obtain ⟨v, hv, hr⟩ := h.slots l x hx
      refine ⟨v, hconc l v hv, hr.keep (Imm.leRefl I) (fun g sh sz es cap _ hg hrow => ⟨hg, ?_⟩) (fun l' _ sh sz es he => ⟨⟨sh, es, he⟩, ?_⟩) (fun k off _ cs hk => ⟨⟨cs, hk⟩, rfl⟩)⟩
      · have hg' := (h.mine g l hg).2
        exact hrow.keep (fun _ h => h) (Imm.leRefl I) (fun _ h => h) (fun o => hc g o hg') (fun o => hf g o hg')
      · obtain ⟨v', hv', _⟩ := h.slots l' _ he
        rw [hv', hconc l' v' hv']
    boxes := by
      intro k cs hk
      obtain ⟨b, h1, h2, h3, h4⟩ := h.boxes k cs hk
      refine ⟨b, h1, h2, h3, fun j hj => ?_⟩
      have hb := (h.mine b _ h2).2
      rw [hc b j hb, hf b j hb]
      exact h4 j hj
    quiet := h.quiet
    lk := h.lk.keep (fun _ _ _ h => h) (fun b k _ hb => hw.block b (h.mine b _ hb).2 id) fun k cs hk => ⟨⟨cs, hk⟩, rfl⟩ }

theorem fr_alloc (w : World) (o : Obj) (hz : ∀ j u, (w.alloc o).cell? ⟨w.heap.size, j, none⟩ = some u → (w.alloc o).frozen? ⟨w.heap.size, j, none⟩ = false) : Fr w (w.alloc o) fun _ => False :=
  ⟨rfl, rfl, rfl, by simp, fun k hk _ => RowKit.Below.heap_alloc w o k hk, fun k j u hu => by
    have h1 : k < (w.alloc o).heap.size := World.block_lt_of_cell? _ _ hu
    have h2 : (w.alloc o).heap.size = w.heap.size + 1 := by simp
    by_cases hk : k < w.heap.size
    · have e : (w.alloc o).heap[k]? = w.heap[k]? := RowKit.Below.heap_alloc w o k hk
      exact .inl ⟨⟨u, by rw [← World.cell?_of_block (a := ⟨k, j, none⟩) e]; exact hu⟩, World.frozen?_of_block (a := ⟨k, j, none⟩) e⟩
    · obtain rfl : k = w.heap.size := by omega
      exact .inr ⟨Nat.le_refl _, hz j u hu⟩⟩
theorem fr_drew (w : World) : Fr w w.drew fun _ => False := ⟨rfl, rfl, rfl, Nat.le_refl _, fun _ _ _ => rfl, (fr_refl w fun _ => False).new⟩

theorem not_mine_ge (F : Fx) {b : Nat} (h : ¬ F.mine b) : b < F.w0.heap.size ∧ ¬ F.S b := ⟨by
  rcases Nat.lt_or_ge b F.w0.heap.size with h1 | h1
  · exact h1
  · exact (h (.inl h1)).elim, fun e => h (.inr e)⟩

/-- Cells of a variable are written. -/
theorem RI.writeVar (h : RI F I own σ a w) {own' : Nat → Option Loc} {k : Nat} {cs : List AV} (hk : look σ.vars k = some cs) {b : Nat} (hb : a.tmps[k]? = some (.pointer (some ⟨b, 0, none⟩))) {off : Nat} {new : List AV} {vals : List Value}
    (hlen : vals.length = new.length) (hoff : off + new.length ≤ cs.length) (hW : Wr w w' b off vals) (h1 : ∀ v, v ∈ vals → v.oneCell' = true)
    (hown : ∀ g l, own g = some l → ((∃ sh sz es, σ.at l = some (.own sh sz es)) ∨ ∃ k cs, l = .box k ∧ look σ.vars k = some cs) → own' g = some l)
    (hmine : ∀ b l, own' b = some l → F.mine b ∧ b < w.heap.size)
    (hnew : ∀ (j : Nat) x v, new[j]? = some x → vals[j]? = some v → SRep F I own' { σ with vars := ins k (putAt cs off new) σ.vars } a w' (.cell k (off + j)) x v)
    (hnl : ∀ (j : Nat) sh sz es, new[j]? = some (.own sh sz es) → ∀ l y, σ.at l = some y → y.leans (.cell k (off + j)) = false)
    (hq : ∀ x, x ∈ new → (∀ l, x.leans l = false) ∧ ∀ k, x.leansVar k = false) (hbox : ∀ b k, own b = some (.box k) → own' b = some (.box k)) (hlk : F.lv k = false) :
    RI F I own' { σ with vars := ins k (putAt cs off new) σ.vars } a w' := by
  obtain ⟨b', hb1, hb2, hb3, hb4⟩ := h.boxes k cs hk
  rw [hb] at hb1
  obtain rfl : b = b' := by cases hb1; rfl
  have hbm := h.mine b _ hb2
  have hpl := putAt_length cs new off hoff
  have hgne : ∀ g l, own g = some l → (∀ k, l ≠ .box k) → g ≠ b := by
    intro g l hg hl e
    subst e
    rw [hb2] at hg
    cases hg
    exact hl k rfl
  have hboxne : ∀ k' cs', look σ.vars k' = some cs' → k' ≠ k → ∀ b', a.tmps[k']? = some (.pointer (some ⟨b', 0, none⟩)) → b' ≠ b := by
    intro k' cs' hk' hne b' hb' e
    subst e
    obtain ⟨b2, e1, e2, _, _⟩ := h.boxes k' cs' hk'
    rw [hb'] at e1
    cases e1
    rw [hb2] at e2
    cases e2
    exact hne rfl
  -- what stands where nothing was written
  have hat : ∀ l y, ASt.at { σ with vars := ins k (putAt cs off new) σ.vars } l = some y → (σ.at l = some y ∧ conc a w' l = conc a w l) ∨ ∃ j, j < new.length ∧ l = .cell k (off + j) ∧ new[j]? = some y := by
    intro l y hy
    cases l with
    | tmp t => exact .inl ⟨hy, rfl⟩
    | comp t j => exact .inl ⟨hy, rfl⟩
    | box k => cases hy
    | cell k' j' =>
      simp only [ASt.at, look_ins] at hy
      by_cases e : k' = k
      · subst e
        simp only [if_true, cellAt, putAt_get cs new off j' hoff] at hy
        by_cases e2 : off ≤ j' ∧ j' < off + new.length
        · rw [if_pos e2] at hy
          exact .inr ⟨j' - off, by omega, by congr 1; omega, hy⟩
        · rw [if_neg e2] at hy
          refine .inl ⟨by simp only [ASt.at, hk, cellAt]; exact hy, ?_⟩
          simp only [conc, hb, cellOf]
          exact hW.cout j' (by omega)
      · simp only [e, if_false] at hy
        refine .inl ⟨hy, ?_⟩
        cases hk' : look σ.vars k' with
        | none => rw [hk'] at hy; cases hy
        | some cs' =>
          obtain ⟨b2, e1, _, _, _⟩ := h.boxes k' cs' hk'
          simp only [conc, e1, cellOf]
          exact hW.cell_ne (hboxne k' cs' hk' e b2 e1) j'
  exact {
    st := h.st.step (fun _ _ _ h => h) (fun _ _ _ h => h) (fun b0 hb0 => hbox b0 _ hb0) (fun b0 hb0 => hW.block b0 fun e => by
      subst e
      rw [hb2] at hb0
      cases hb0
      have h1 := (Array.getElem?_eq_some_iff.1 hb).1
      rw [h.size] at h1
      exact Nat.lt_irrefl _ h1)
    imm := by
      intro b0 o v hI
      by_cases e : b0 = b
      · subst e; rw [hb3 o] at hI; cases hI
      · rw [hW.cell_ne e o]; exact h.imm b0 o v hI
    base := h.base
    inew := h.inew
    mko := h.mko
    fr := fr_trans h.fr hW.os hW.tape hW.output (Nat.le_of_eq hW.size.symm) (fun k hk hp => hW.block k fun e => by
      subst e
      rcases hbm.1 with e | e
      · omega
      · exact hp e) fun k o u hu => .inl ⟨hW.dom k o u hu, hW.frz _⟩
    mine := fun b0 l hb0 => by rw [hW.size]; exact hmine b0 l hb0
    defs := h.defs
    size := h.size
    slots := by
      intro l y hy
      rcases hat l y hy with ⟨hy', hc⟩ | ⟨j, hj, rfl, hn⟩
      · obtain ⟨v, hv, hr⟩ := h.slots l y hy'
        refine ⟨v, by rw [hc]; exact hv, hr.keep (Imm.leRefl I) (fun g sh sz es cap e hg hrow => ?_) (fun l' hl' sh sz es he => ?_) (fun k' off' _ cs' hk' => ?_)⟩
        · have hlb : ∀ k, l ≠ .box k := fun k e => by subst e; cases hy'
          have hne := hgne g l hg hlb
          subst e
          exact ⟨hown g l hg (.inl ⟨_, _, _, hy'⟩), hrow.keep (fun _ h => h) (Imm.leRefl I) (fun _ h => h) (fun o => hW.cell_ne hne o) (fun o => hW.frz _)⟩
        · rcases hat l' _ he with ⟨he', hc'⟩ | ⟨j, hj, rfl, hn⟩
          · exact ⟨⟨sh, es, he'⟩, hc'⟩
          · rw [hnl j _ _ _ hn l y hy'] at hl'; cases hl'
        · refine ⟨?_, rfl⟩
          rw [look_ins] at hk'
          by_cases e : k' = k
          · subst e; exact ⟨cs, hk⟩
          · simp only [e, if_false] at hk'; exact ⟨cs', hk'⟩
      · have hv : vals[j]? = some vals[j] := List.getElem?_eq_getElem (by omega)
        refine ⟨vals[j], ?_, hnew j y _ hn hv⟩
        simp only [conc, hb, cellOf]
        rw [hW.cin j (by omega), hv]
    boxes := by
      intro k' cs' hk'
      rw [look_ins] at hk'
      by_cases e : k' = k
      · subst e
        simp only [if_true, Option.some.injEq] at hk'
        subst hk'
        refine ⟨b, hb, hown b _ hb2 (.inr ⟨k', cs, rfl, hk⟩), hb3, fun j hj => ?_⟩
        rw [hpl] at hj
        obtain ⟨v, e1, e2, e3⟩ := hb4 j hj
        by_cases e4 : off ≤ j ∧ j < off + vals.length
        · have hv : vals[j - off]? = some (vals[j - off]'(by omega)) := List.getElem?_eq_getElem (by omega)
          refine ⟨vals[j - off]'(by omega), ?_, h1 _ (List.getElem_mem _), by rw [hW.frz]; exact e3⟩
          have := hW.cin (j - off) (by omega)
          rw [show off + (j - off) = j by omega] at this
          rw [this, hv]
        · exact ⟨v, by rw [hW.cout j (by omega)]; exact e1, e2, by rw [hW.frz]; exact e3⟩
      · simp only [e, if_false] at hk'
        obtain ⟨b2, e1, e2, e3, e4⟩ := h.boxes k' cs' hk'
        have hne := hboxne k' cs' hk' e b2 e1
        refine ⟨b2, e1, hown b2 _ e2 (.inr ⟨k', cs', rfl, hk'⟩), e3, fun j hj => ?_⟩
        rw [hW.cell_ne hne j, hW.frz]
        exact e4 j hj
    quiet := by
      intro l y hy hl
      rcases hat l y hy with ⟨hy', _⟩ | ⟨j, hj, rfl, hn⟩
      · exact h.quiet l y hy' hl
      · exact hq y (List.mem_of_getElem? hn)
    lk := ⟨fun b2 hb2 => by
      obtain ⟨s1, k2, s2, s3⟩ := h.lk.stay b2 hb2
      have hne : b2 ≠ b := fun e => by
        subst e
        obtain ⟨b3, e1, e2, _⟩ := h.boxes k cs hk
        rw [hb] at e1
        obtain rfl : b2 = b3 := by cases e1; rfl
        rw [e2] at s2
        obtain rfl : k = k2 := by cases s2; rfl
        rw [hlk] at s3; cases s3
      exact ⟨(hW.block b2 hne).trans s1, k2, hbox b2 k2 s2, s3⟩, fun k2 hl2 cs2 b2 hk2 hb2 => by
      rw [look_ins] at hk2
      by_cases e : k2 = k
      · subst e; rw [hlk] at hl2; cases hl2
      · rw [if_neg e] at hk2
        exact h.lk.all k2 hl2 cs2 b2 hk2 hb2⟩ }

theorem imm_quiet {x : AV} (h : x.isImm = true) : (∀ l, x.leans l = false) ∧ ∀ k, x.leansVar k = false := by
  cases x <;> first | (simp [AV.isImm] at h; done) | exact ⟨fun _ => rfl, fun _ => rfl⟩

/-- Values that never change any more are laid into a variable. -/
theorem RI.setVar (h : RI F I own σ a w) {k : Nat} {cs : List AV} (hk : look σ.vars k = some cs) {b : Nat} (hb : a.tmps[k]? = some (.pointer (some ⟨b, 0, none⟩))) {off : Nat} {new : List AV} {vals : List Value}
    (hlen : vals.length = new.length) (hoff : off + new.length ≤ cs.length) (hW : Wr w w' b off vals) (h1 : ∀ v, v ∈ vals → v.oneCell' = true)
    (hnew : ∀ (j : Nat) x v, new[j]? = some x → vals[j]? = some v → AR F.mo I x v) (hlk : F.lv k = false) : RI F I own { σ with vars := ins k (putAt cs off new) σ.vars } a w' := by
  have him : ∀ x, x ∈ new → x.isImm = true := by
    intro x hx
    obtain ⟨j, hj⟩ := List.getElem?_of_mem hx
    have hjl := (List.getElem?_eq_some_iff.1 hj).1
    exact (hnew j x vals[j] hj (List.getElem?_eq_getElem (by omega))).imm
  refine h.writeVar hk hb hlen hoff hW h1 (fun _ _ hg _ => hg) h.mine (fun j x v hx hv => (srep_imm (him x (List.mem_of_getElem? hx))).2 (hnew j x v hx hv)) (fun j sh sz es he => ?_) (fun x hx => imm_quiet (him x hx)) (fun _ _ h => h) hlk
  have := him _ (List.mem_of_getElem? he)
  simp [AV.isImm] at this

theorem set_eq_putAt (cs : List AV) (off : Nat) (x : AV) (h : off < cs.length) : cs.set off x = putAt cs off [x] := by
  apply List.ext_getElem?
  intro j
  rw [putAt_get cs [x] off j (by simp; omega), List.getElem?_set]
  by_cases e : off = j
  · subst e; simp [h]
  · rw [if_neg e, if_neg (by simp; omega)]

/-- A row in hand is laid into a variable's cell. -/
theorem RI.setVarOwn (h0 : RI F I own σ a w) {k : Nat} {cs : List AV} (hk : look σ.vars k = some cs) {b : Nat} (hb : a.tmps[k]? = some (.pointer (some ⟨b, 0, none⟩))) {off : Nat}
    (hoff : off < cs.length) {sh : Bool} {sz : Nat} {es : List AV} {v : Value} (hW : Wr w w' b off [v]) (hh0 : Hand F I own σ w sh sz es v) (hlk : F.lv k = false) :
    RI F I (giveTo own v (.cell k off)) (ASt.setCell { σ with tmps := VA.strike (AV.leans (.cell k off)) σ.tmps } k off (.own sh sz es)) a w' := by
  have h := h0.strike (AV.leans (.cell k off))
  have hh : Hand F I own { σ with tmps := VA.strike (AV.leans (.cell k off)) σ.tmps } w sh sz es v := by
    rcases hh0 with h1 | ⟨g0, cap, rfl, hf, h1, h2, hr⟩
    · exact .inl h1
    · refine .inr ⟨g0, cap, rfl, fun l hl => ⟨fun sh sz es he => ?_, (hf l hl).2⟩, h1, h2, hr⟩
      obtain ⟨x0, e0, rfl | e1⟩ := at_strike _ σ l _ he
      · exact (hf l hl).1 _ _ _ e0
      · cases e1
  have hnl : ∀ l y, ASt.at { σ with tmps := VA.strike (AV.leans (.cell k off)) σ.tmps } l = some y → y.leans (.cell k off) = false := by
    intro l y hy
    by_cases e : ∃ j, l = .tmp j
    · obtain ⟨j, rfl⟩ := e; exact strike_leans hy
    · exact (h.quiet l y hy fun j e' => e ⟨j, e'⟩).1 _
  obtain ⟨b', hb1, hb2, hb3, hb4⟩ := h0.boxes k cs hk
  rw [hb] at hb1
  obtain rfl : b = b' := by cases hb1; rfl
  have hst : ASt.setCell { σ with tmps := VA.strike (AV.leans (.cell k off)) σ.tmps } k off (.own sh sz es) = { σ with tmps := VA.strike (AV.leans (.cell k off)) σ.tmps, vars := ins k (putAt cs off [.own sh sz es]) σ.vars } := by
    simp only [ASt.setCell, hk, ASt.setCellO, set_eq_putAt cs off _ hoff]
  rw [hst]
  have hv1 : v.oneCell' = true := by
    rcases hh with ⟨rfl, _⟩ | ⟨g0, cap, rfl, _⟩ <;> rfl
  refine h.writeVar (own' := giveTo own v (.cell k off)) (vals := [v]) hk hb rfl (by simp; omega) hW (fun v' hv' => by rw [List.mem_singleton.1 hv']; exact hv1) (fun g l hg hl => hand_keep hh _ l g hg hl)
    (fun b0 l hb0 => hand_mine h hh (.cell k off) b0 l hb0) (fun j x v' hx hv' => ?_) (fun j sh' sz' es' he => ?_) (fun x hx => ?_) (fun b k hb => hand_box hh _ b k hb) hlk
  · obtain ⟨rfl, rfl⟩ := lget_one hx
    obtain ⟨_, rfl⟩ := lget_one hv'
    rcases hh with hn | ⟨g0, cap, rfl, hf, h1, h2, hr⟩
    · exact .inl hn
    · refine .inr ⟨g0, cap, rfl, giveTo_same own g0 _ _ _, ?_⟩
      have hne : g0 ≠ b := by
        intro e; subst e
        exact (hf _ hb2).2 k rfl
      exact hr.keep (fun _ h => h) (Imm.leRefl I) (fun _ h => h) (fun o => hW.cell_ne hne o) (fun o => hW.frz _)
  · obtain ⟨rfl, _⟩ := lget_one he
    exact hnl
  · rw [List.mem_singleton.1 hx]
    exact ⟨fun _ => rfl, fun _ => rfl⟩

end
end Go.Proofs.Ytmngjlgeojbghaa.VA
end
section
namespace Go.Proofs.Ytmngjlgeojbghaa.VA
section
variable {F : Fx} {I : Imm} {own : Nat → Option Loc} {σ : ASt} {a : Act} {w w' : World}

theorem RI.imm_lt (h : RI F I own σ a w) {b o : Nat} {v : Value} (hI : I b o = some v) : b < w.heap.size := World.block_lt_of_cell? w _ (h.imm b o v hI)
theorem RI.imm_new (h : RI F I own σ a w) {b : Nat} (hb : w.heap.size ≤ b) (o : Nat) : I b o = none := by
  cases hI : I b o with
  | none => rfl
  | some v => have := h.imm_lt hI; omega
theorem RI.own_new (h : RI F I own σ a w) {b : Nat} (hb : w.heap.size ≤ b) : own b = none := by
  cases hI : own b with
  | none => rfl
  | some v => have := (h.mine b v hI).2; omega

theorem strike_leansVar {d : Nat} {σ : ASt} {t : Nat} {y : AV} (h : look (VA.strike (AV.leansVar d) σ.tmps) t = some y) : y.leansVar d = false := by
  rw [look_strike] at h
  cases hl : look σ.tmps t with
  | none => rw [hl] at h; cases h
  | some x =>
    rw [hl] at h
    simp only [Option.map_some, Option.some.injEq] at h
    by_cases hx : x.leansVar d = true
    · rw [if_pos hx] at h; subst h; rfl
    · rw [if_neg hx] at h; subst h; simpa using hx
theorem leansVar_cell {y : AV} {d j : Nat} (h : y.leans (.cell d j) = true) : y.leansVar d = true := by
  cases y with
  | ref l => simp only [AV.leans, decide_eq_true_eq] at h; subst h; simp [AV.leansVar]
  | elt x i off =>
    cases x with
    | ref l => simp only [AV.leans, decide_eq_true_eq] at h; subst h; simp [AV.leansVar]
    | _ => simp [AV.leans] at h
  | _ => simp [AV.leans] at h

/-- A new variable. -/
theorem RI.newVar (h0 : RI F I own σ a w) {d : Nat} (hd : F.C.may d = true) {cs : List AV} {vs : Array Value} {T : TypeId} (hl : cs.length = vs.size) (h1 : ∀ (j : Nat) v, vs[j]? = some v → v.oneCell' = true)
    (hc : ∀ (j : Nat) x v, cs[j]? = some x → vs[j]? = some v → AR F.mo I x v ∨ (∃ sh sz, x = .own sh sz [] ∧ v = .slice none 0 0)) (hlk : F.lv d = false) :
    RI F I (fun b => if b = w.heap.size then some (.box d) else own b) (σ.newVar d cs) (a.put (some d) (.pointer (some ⟨w.heap.size, 0, none⟩))) (w.alloc (.cells vs T)) := by
  have h := (h0.grow (fr_alloc w (.cells vs T) fun j u _ => World.frozen?_alloc_new w vs T j)).strike (AV.leansVar d)
  have hnb : own w.heap.size = none := h0.own_new (Nat.le_refl _)
  have hnl : ∀ l y, ASt.at { σ with tmps := VA.strike (AV.leansVar d) σ.tmps } l = some y → y.leansVar d = false := by
    intro l y hy
    by_cases e : ∃ j, l = .tmp j
    · obtain ⟨j, rfl⟩ := e; exact strike_leansVar hy
    · exact (h.quiet l y hy fun j e' => e ⟨j, e'⟩).2 _
  have hsz : d < a.tmps.size := by rw [h.size]; exact may_lt hd
  have hnew : ∀ j, (w.alloc (.cells vs T)).cell? ⟨w.heap.size, j, none⟩ = vs[j]? := fun j => World.cell?_alloc_new w vs T j
  have hat : ∀ l y, (σ.newVar d cs).at l = some y → (l = .tmp d ∧ y = .var d 0) ∨ (∃ j, l = .cell d j ∧ cs[j]? = some y) ∨
      (ASt.at { σ with tmps := VA.strike (AV.leansVar d) σ.tmps } l = some y ∧ l ≠ .tmp d ∧ (∀ j, l ≠ .comp d j) ∧ (∀ j, l ≠ .cell d j)) := by
    intro l y hy
    cases l with
    | tmp t =>
      simp only [ASt.newVar, ASt.at, look_ins] at hy
      by_cases e : t = d
      · subst e; simp only [if_true, Option.some.injEq] at hy; exact .inl ⟨rfl, hy.symm⟩
      · simp only [e, if_false] at hy
        exact .inr (.inr ⟨hy, (fun e' => e (by cases e'; rfl)), (fun j e' => by cases e'), (fun j e' => by cases e')⟩)
    | cell k j =>
      simp only [ASt.newVar, ASt.at, look_ins] at hy
      by_cases e : k = d
      · subst e; simp only [if_true, cellAt] at hy; exact .inr (.inl ⟨j, rfl, hy⟩)
      · simp only [e, if_false] at hy
        exact .inr (.inr ⟨hy, (fun e' => by cases e'), (fun j e' => by cases e'), (fun j e' => e (by cases e'; rfl))⟩)
    | comp t j =>
      simp only [ASt.newVar, ASt.at, look_ins] at hy
      by_cases e : t = d
      · subst e; simp only [if_true, AV.compAt] at hy; cases hy
      · simp only [e, if_false] at hy
        exact .inr (.inr ⟨hy, (fun e' => by cases e'), (fun j e' => e (by cases e'; rfl)), (fun j e' => by cases e')⟩)
    | box k => cases hy
  exact {
    st := h.st.step (fun _ _ _ h => h) (fun _ _ _ h => h) (fun b hb => by rw [if_neg fun e => by rw [e, hnb] at hb; cases hb]; exact hb) (fun _ _ => rfl)
    imm := h.imm
    base := h.base
    inew := h.inew
    fr := h.fr
    mko := h.mko
    mine := by
      intro b l hb
      have hb : (if b = w.heap.size then some (Loc.box d) else own b) = some l := hb
      by_cases e : b = w.heap.size
      · subst e
        refine ⟨.inl h0.fr.size, by simp⟩
      · rw [if_neg e] at hb
        exact h.mine b l hb
    defs := defs_put h.defs hd
    size := by simp [Act.put, h.size]
    slots := by
      intro l y hy
      rcases hat l y hy with ⟨rfl, rfl⟩ | ⟨j, rfl, hj⟩ | ⟨hy', n1, n2, n3⟩
      · refine ⟨_, tmp_put_same a d _ hsz, fun cs' _ => ⟨w.heap.size, tmp_put_same a d _ hsz, rfl⟩⟩
      · have hjl : j < vs.size := by rw [← hl]; exact (List.getElem?_eq_some_iff.1 hj).1
        refine ⟨vs[j], ?_, ?_⟩
        · simp only [conc, tmp_put_same a d _ hsz, cellOf, hnew j, Array.getElem?_eq_getElem hjl]
        · rcases hc j y _ hj (Array.getElem?_eq_getElem hjl) with hr | ⟨sh, sz, rfl, e⟩
          · exact (srep_imm hr.imm).2 hr
          · exact .inl ⟨e, rfl⟩
      · obtain ⟨v, hv, hr⟩ := h.slots l y hy'
        refine ⟨v, by rw [conc_put_ne a _ d _ l n1 n2 n3]; exact hv, hr.keep (Imm.leRefl I) (fun g sh sz es cap _ hg hrow => ⟨?_, hrow⟩) (fun l' hl' sh sz es he => ?_) (fun k off e cs' hk => ?_)⟩
        · have : g ≠ w.heap.size := fun e => by rw [e, hnb] at hg; cases hg
          simp only [this, if_false]; exact hg
        · rcases hat l' _ he with ⟨rfl, e⟩ | ⟨j, rfl, _⟩ | ⟨he', m1, m2, m3⟩
          · cases e
          · have := hnl l y hy'
            rw [leansVar_cell hl'] at this; cases this
          · exact ⟨⟨sh, es, he'⟩, conc_put_ne a _ d _ l' m1 m2 m3⟩
        · have hkd : k ≠ d := by
            intro e'
            subst e' e
            have := hnl l _ hy'
            simp [AV.leansVar] at this
          refine ⟨?_, tmp_put_ne a d k _ hkd⟩
          simp only [ASt.newVar, look_ins, hkd, if_false] at hk
          exact ⟨cs', hk⟩
    boxes := by
      intro k cs' hk
      simp only [ASt.newVar, look_ins] at hk
      by_cases e : k = d
      · subst e
        simp only [if_true, Option.some.injEq] at hk
        subst hk
        refine ⟨w.heap.size, tmp_put_same a k _ hsz, by simp, fun o => h0.imm_new (Nat.le_refl _) o, fun j hj => ?_⟩
        have hjl : j < vs.size := by rw [← hl]; exact hj
        refine ⟨vs[j], by rw [hnew j, Array.getElem?_eq_getElem hjl], h1 j _ (Array.getElem?_eq_getElem hjl), ?_⟩
        exact World.frozen?_alloc_new w vs T j
      · simp only [e, if_false] at hk
        obtain ⟨b, e1, e2, e3, e4⟩ := h.boxes k cs' hk
        refine ⟨b, by rw [tmp_put_ne a d k _ e]; exact e1, ?_, e3, e4⟩
        have : b ≠ w.heap.size := fun e => by rw [e, hnb] at e2; cases e2
        simp only [this, if_false]; exact e2
    quiet := by
      intro l y hy hlt
      rcases hat l y hy with ⟨rfl, rfl⟩ | ⟨j, rfl, hj⟩ | ⟨hy', _, _, _⟩
      · exact absurd rfl (hlt d)
      · have hjl : j < vs.size := by rw [← hl]; exact (List.getElem?_eq_some_iff.1 hj).1
        rcases hc j y _ hj (Array.getElem?_eq_getElem hjl) with hr | ⟨sh, sz, rfl, e⟩
        · exact imm_quiet hr.imm
        · exact ⟨fun _ => rfl, fun _ => rfl⟩
      · exact h.quiet l y hy' hlt
    lk := ⟨fun b hb => by
      obtain ⟨h1, k, h2, h3⟩ := h.lk.stay b hb
      refine ⟨h1, k, ?_, h3⟩
      have : b ≠ w.heap.size := fun e => by rw [e, hnb] at h2; cases h2
      simp only [this, if_false]; exact h2, fun k hl cs' b hk hb => by
      by_cases e : k = d
      · subst e; rw [hlk] at hl; cases hl
      · rw [tmp_put_ne a d k _ e] at hb
        have hk' : look σ.vars k = some cs' := by
          simp only [ASt.newVar, look_ins, e, if_false] at hk
          exact hk
        exact h0.lk.all k hl cs' b hk' hb⟩ }

/-- One block alone has turned. -/
structure Only (w w' : World) (g : Nat) : Prop where
  os : w'.os = w.os
  tape : w'.tape = w.tape
  output : w'.output = w.output
  size : w'.heap.size = w.heap.size
  block : ∀ k, k ≠ g → w'.heap[k]? = w.heap[k]?
  frzg : ∀ x, w'.frozen? x = w.frozen? x
  dom : ∀ k o u, w'.cell? ⟨k, o, none⟩ = some u → ∃ u', w.cell? ⟨k, o, none⟩ = some u'
theorem Wr.only {b off : Nat} {vals : List Value} (h : Wr w w' b off vals) : Only w w' b := ⟨h.os, h.tape, h.output, h.size, h.block, h.frz, h.dom⟩
theorem Only.refl (w : World) (g : Nat) : Only w w g := ⟨rfl, rfl, rfl, rfl, fun _ _ => rfl, fun _ => rfl, fun _ _ u h => ⟨u, h⟩⟩
theorem Only.cell {g : Nat} (h : Only w w' g) {k : Nat} (hk : k ≠ g) (o : Nat) : w'.cell? ⟨k, o, none⟩ = w.cell? ⟨k, o, none⟩ := World.cell?_of_block (h.block k hk)
theorem Only.frz {g : Nat} (h : Only w w' g) {k : Nat} (hk : k ≠ g) (o : Nat) : w'.frozen? ⟨k, o, none⟩ = w.frozen? ⟨k, o, none⟩ := World.frozen?_of_block (h.block k hk)

theorem at_turn {σ : ASt} {l : Loc} (hp : l.plain = true) {sh sh' : Bool} {sz sz' : Nat} {es es' : List AV} (hl : σ.at l = some (.own sh sz es)) (l' : Loc) :
    (σ.turn l (.own sh' sz' es')).at l' = if l' = l then some (.own sh' sz' es') else σ.at l' := by
  cases l with
  | tmp t =>
    simp only [ASt.turn]
    by_cases e : l' = .tmp t
    · subst e; simp only [ASt.at, look_put, if_true]
    · rw [if_neg e]
      by_cases e2 : ∃ j, l' = .comp t j
      · obtain ⟨j, rfl⟩ := e2
        simp only [ASt.at] at hl
        simp only [ASt.at, look_put, if_true, AV.compAt, hl]
      · exact at_put_ne σ t _ l' e fun j e3 => e2 ⟨j, e3⟩
  | cell k j =>
    simp only [ASt.at] at hl
    cases hk : look σ.vars k with
    | none => rw [hk] at hl; cases hl
    | some cs =>
      rw [hk] at hl
      simp only [cellAt] at hl
      have hjl := (List.getElem?_eq_some_iff.1 hl).1
      simp only [ASt.turn, ASt.setCell, hk, ASt.setCellO]
      cases l' with
      | cell k' j' =>
        simp only [ASt.at, look_ins]
        by_cases e : k' = k
        · subst e
          simp only [if_true, cellAt, hk, List.getElem?_set]
          by_cases e2 : j = j'
          · subst e2; simp [hjl]
          · rw [if_neg e2, if_neg (fun e3 => e2 (by cases e3; rfl))]
        · simp only [e, if_false]
          rw [if_neg (fun e3 => e (by cases e3; rfl))]
      | tmp t => rw [if_neg (fun e => by cases e)]; rfl
      | comp t j => rw [if_neg (fun e => by cases e)]; rfl
      | box k => rw [if_neg (fun e => by cases e)]; rfl
  | comp t j => cases hp
  | box k => cases hp
theorem vars_turn {σ : ASt} (l : Loc) (x : AV) {k : Nat} {cs : List AV} (h : look (σ.turn l x).vars k = some cs) : ∃ cs0, look σ.vars k = some cs0 ∧ cs0.length = cs.length := by
  cases l with
  | cell k' j =>
    cases hk : look σ.vars k' with
    | none => simp only [ASt.turn, ASt.setCell, hk, ASt.setCellO] at h; exact ⟨cs, h, rfl⟩
    | some cs' =>
      simp only [ASt.turn, ASt.setCell, hk, ASt.setCellO, look_ins] at h
      by_cases e : k = k'
      · subst e
        simp only [if_true, Option.some.injEq] at h
        subst h
        exact ⟨cs', hk, by simp⟩
      · simp only [e, if_false] at h; exact ⟨cs, h, rfl⟩
  | _ => exact ⟨cs, h, rfl⟩

theorem turn_st {σ : ASt} (l : Loc) (v : AV) : (σ.turn l v).st = σ.st := by
  cases l with
  | tmp t => rfl
  | comp t j => rfl
  | cell k j =>
    show (ASt.setCellO _ _ _ _ _).st = _
    cases look σ.vars k <;> rfl
  | box k => rfl
/-- The row at a place turns: its marks, or its elements. -/
theorem RI.turnRow (h : RI F I own σ a w) {l : Loc} (hp : l.plain = true) {sh sh' : Bool} {sz : Nat} {es es' : List AV} (hl : σ.at l = some (.own sh sz es)) {g cap : Nat}
    (hv : conc a w l = some (.slice (some ⟨g, 0, none⟩) es.length cap)) (hg : own g = some l) {J : Imm} (hI : Imm.le I J) (hJ : Imm.ok J w') (hJn : ∀ b o v, J b o = some v → I b o = some v ∨ b = g)
    (hO : Only w w' g) (hlen : es'.length = es.length) (hrow : Row F.mo J w' g sh' sz es' cap) : RI F J own (σ.turn l (.own sh' sz es')) a w' := by
  have hgm := h.mine g l hg
  have hbne : ∀ k cs, look σ.vars k = some cs → ∀ b, a.tmps[k]? = some (.pointer (some ⟨b, 0, none⟩)) → b ≠ g := by
    intro k cs hk b hb e
    subst e
    obtain ⟨b2, e1, e2, _, _⟩ := h.boxes k cs hk
    rw [hb] at e1
    cases e1
    rw [hg] at e2
    cases e2
    cases hl
  have hconc : ∀ l' y, σ.at l' = some y → conc a w' l' = conc a w l' := by
    intro l' y hy
    cases l' with
    | cell k j =>
      cases hk : look σ.vars k with
      | none => simp only [ASt.at, hk, cellAt] at hy; cases hy
      | some cs =>
        obtain ⟨b, e1, _, _, _⟩ := h.boxes k cs hk
        simp only [conc, e1, cellOf]
        exact hO.cell (hbne k cs hk b e1) j
    | _ => rfl
  have hat := at_turn (sh' := sh') (sz' := sz) (es' := es') hp hl
  have hJnone : ∀ b, b ≠ g → ∀ o, I b o = none → J b o = none := by
    intro b hb o hn
    cases hj : J b o with
    | none => rfl
    | some v =>
      rcases hJn b o v hj with e | e
      · rw [hn] at e; cases e
      · exact (hb e).elim
  exact {
    st := by
      rw [turn_st]
      exact h.st.step hI (fun b hb o hn => hJnone b (fun e => by subst e; rw [hg] at hb; cases hb; cases hl) o hn) (fun _ h => h) (fun b hb => hO.block b fun e => by
        subst e
        rw [hg] at hb
        cases hb
        cases hl)
    imm := hJ
    base := h.base.trans hI
    inew := by
      intro b o v hb
      rcases hJn b o v hb with e | rfl
      · exact h.inew b o v e
      · exact .inr hgm.1
    mko := h.mko
    fr := fr_trans h.fr hO.os hO.tape hO.output (Nat.le_of_eq hO.size.symm) (fun k hk hp => hO.block k fun e => by
      subst e
      rcases hgm.1 with e | e
      · omega
      · exact hp e) fun k o u hu => .inl ⟨hO.dom k o u hu, hO.frzg _⟩
    mine := fun b l hb => by rw [hO.size]; exact h.mine b l hb
    defs := h.defs
    size := h.size
    slots := by
      intro l' y hy
      rw [hat l'] at hy
      by_cases e : l' = l
      · subst e
        simp only [if_true, Option.some.injEq] at hy
        subst hy
        refine ⟨_, by rw [hconc l' _ hl]; exact hv, .inr ⟨g, cap, by rw [hlen], hg, hrow⟩⟩
      · rw [if_neg e] at hy
        obtain ⟨v, hv', hr⟩ := h.slots l' y hy
        refine ⟨v, by rw [hconc l' y hy]; exact hv', hr.keep hI (fun g' sh1 sz1 es1 cap1 _ hg' hrow' => ⟨hg', ?_⟩) (fun l2 _ sh2 sz2 es2 he => ?_) (fun k off _ cs hk => ?_)⟩
        · have hne : g' ≠ g := fun e2 => by rw [e2, hg] at hg'; cases hg'; exact e rfl
          exact hrow'.keep (fun _ h => h) hI (hJnone g' hne) (fun o => hO.cell hne o) (fun o => hO.frz hne o)
        · rw [hat l2] at he
          by_cases e2 : l2 = l
          · subst e2
            simp only [if_true, Option.some.injEq, AV.own.injEq] at he
            obtain ⟨rfl, rfl, rfl⟩ := he
            exact ⟨⟨sh, es, hl⟩, hconc l2 _ hl⟩
          · rw [if_neg e2] at he
            exact ⟨⟨sh2, es2, he⟩, hconc l2 _ he⟩
        · obtain ⟨cs0, e1, _⟩ := vars_turn l _ hk
          exact ⟨⟨cs0, e1⟩, rfl⟩
    boxes := by
      intro k cs hk
      obtain ⟨cs0, e1, e2⟩ := vars_turn l _ hk
      obtain ⟨b, f1, f2, f3, f4⟩ := h.boxes k cs0 e1
      have hne := hbne k cs0 e1 b f1
      refine ⟨b, f1, f2, fun o => hJnone b hne o (f3 o), fun j hj => ?_⟩
      obtain ⟨v, v1, v2, v3⟩ := f4 j (by omega)
      exact ⟨v, by rw [hO.cell hne]; exact v1, v2, by rw [hO.frz hne]; exact v3⟩
    quiet := by
      intro l' y hy hlt
      rw [hat l'] at hy
      by_cases e : l' = l
      · subst e
        simp only [if_true, Option.some.injEq] at hy
        subst hy
        exact ⟨fun _ => rfl, fun _ => rfl⟩
      · rw [if_neg e] at hy
        exact h.quiet l' y hy hlt
    lk := h.lk.keep (fun _ _ _ h => h) (fun b k _ hb => hO.block b fun e => by
      subst e
      rw [hg] at hb
      cases hb
      cases hl) fun k cs hk => by
        obtain ⟨cs0, e1, _⟩ := vars_turn l _ hk
        exact ⟨⟨cs0, e1⟩, rfl⟩ }

/-- The row at a place is marked as one that never changes any more: it reads as such. -/
theorem RI.markMore (h : RI F I own σ a w) {l : Loc} (hp : l.plain = true) {sh : Bool} {sz : Nat} {es : List AV} (hl : σ.at l = some (.own sh sz es)) :
    ∃ J v, conc a w l = some v ∧ Imm.le I J ∧ RI F J own (σ.turn l (.own true sz es)) a w ∧ AR F.mo J (.sl true sz es) v ∧ ∀ b, own b ≠ some l → ∀ o, J b o = I b o := by
  obtain ⟨v, hv, hr⟩ := h.slots l _ hl
  rcases hr with ⟨rfl, rfl⟩ | ⟨g, cap, rfl, hg, hrow⟩
  · refine ⟨I, _, hv, Imm.leRefl I, ?_, .slnil true sz none 0, fun _ _ _ => rfl⟩
    have hat := at_turn (sh' := true) (sz' := sz) (es' := []) hp hl
    exact {
      st := by rw [turn_st]; exact h.st
      imm := h.imm
      base := h.base
      inew := h.inew
      fr := h.fr
      mko := h.mko
      mine := h.mine
      defs := h.defs
      size := h.size
      slots := by
        intro l' y hy
        rw [hat l'] at hy
        by_cases e : l' = l
        · subst e
          simp only [if_true, Option.some.injEq] at hy
          subst hy
          exact ⟨_, hv, .inl ⟨rfl, rfl⟩⟩
        · rw [if_neg e] at hy
          obtain ⟨v, hv', hr⟩ := h.slots l' y hy
          refine ⟨v, hv', hr.keep (Imm.leRefl I) (fun g' sh1 sz1 es1 cap1 _ hg' hrow' => ⟨hg', hrow'⟩) (fun l2 _ sh2 sz2 es2 he => ?_) (fun k off _ cs hk => ?_)⟩
          · rw [hat l2] at he
            by_cases e2 : l2 = l
            · subst e2
              simp only [if_true, Option.some.injEq, AV.own.injEq] at he
              obtain ⟨rfl, rfl, rfl⟩ := he
              exact ⟨⟨sh, [], hl⟩, rfl⟩
            · rw [if_neg e2] at he
              exact ⟨⟨sh2, es2, he⟩, rfl⟩
          · obtain ⟨cs0, e1, _⟩ := vars_turn l _ hk
            exact ⟨⟨cs0, e1⟩, rfl⟩
      boxes := by
        intro k cs hk
        obtain ⟨cs0, e1, e2⟩ := vars_turn l _ hk
        obtain ⟨b, f1, f2, f3, f4⟩ := h.boxes k cs0 e1
        exact ⟨b, f1, f2, f3, fun j hj => f4 j (by omega)⟩
      quiet := by
        intro l' y hy hlt
        rw [hat l'] at hy
        by_cases e : l' = l
        · subst e
          simp only [if_true, Option.some.injEq] at hy
          subst hy
          exact ⟨fun _ => rfl, fun _ => rfl⟩
        · rw [if_neg e] at hy
          exact h.quiet l' y hy hlt
      lk := h.lk.keep (fun _ _ _ h => h) (fun _ _ _ _ => rfl) fun k cs hk => by
        obtain ⟨cs0, e1, _⟩ := vars_turn l _ hk
        exact ⟨⟨cs0, e1⟩, rfl⟩ }
  · refine ⟨I.with w g (es.length * sz), _, hv, Imm.with_le h.imm, ?_, ?_, fun b hb o => Imm.with_ne (fun e => hb (by rw [e]; exact hg)) o⟩
    · refine h.turnRow hp hl hv hg (Imm.with_le h.imm) (Imm.with_ok h.imm) (fun b o v hb => ?_) (Only.refl w g) rfl (hrow.share h.imm)
      by_cases e : b = g
      · exact .inr e
      · rw [Imm.with_ne e] at hb; exact .inl hb
    · exact (hrow.share h.imm).toSl (h.mko _ (h.mine g l hg).1)
theorem RI.mark (h : RI F I own σ a w) {l : Loc} (hp : l.plain = true) {sh : Bool} {sz : Nat} {es : List AV} (hl : σ.at l = some (.own sh sz es)) :
    ∃ J v, conc a w l = some v ∧ Imm.le I J ∧ RI F J own (σ.turn l (.own true sz es)) a w ∧ AR F.mo J (.sl true sz es) v := by
  obtain ⟨J, v, h1, h2, h3, h4, _⟩ := h.markMore hp hl
  exact ⟨J, v, h1, h2, h3, h4⟩

/-- Nobody's row turns. -/
theorem RI.onlyFree (h : RI F I own σ a w) {g : Nat} (hO : Only w w' g) (hf : Free σ own g) (hm : F.mine g) (hI : Imm.ok I w') : RI F I own σ a w' := by
  have hbne : ∀ k cs, look σ.vars k = some cs → ∀ b, a.tmps[k]? = some (.pointer (some ⟨b, 0, none⟩)) → b ≠ g := by
    intro k cs hk b hb e
    subst e
    obtain ⟨b2, e1, e2, _, _⟩ := h.boxes k cs hk
    rw [hb] at e1
    cases e1
    exact (hf _ e2).2 k rfl
  have hconc : ∀ l' y, σ.at l' = some y → conc a w' l' = conc a w l' := by
    intro l' y hy
    cases l' with
    | cell k j =>
      cases hk : look σ.vars k with
      | none => simp only [ASt.at, hk, cellAt] at hy; cases hy
      | some cs =>
        obtain ⟨b, e1, _, _, _⟩ := h.boxes k cs hk
        simp only [conc, e1, cellOf]
        exact hO.cell (hbne k cs hk b e1) j
    | _ => rfl
  exact {
    st := h.st.step (fun _ _ _ h => h) (fun _ _ _ h => h) (fun _ h => h) (fun b hb => hO.block b fun e => by subst e; exact (hf _ hb).2 _ rfl)
    imm := hI
    base := h.base
    inew := h.inew
    mko := h.mko
    fr := fr_trans h.fr hO.os hO.tape hO.output (Nat.le_of_eq hO.size.symm) (fun k hk hp => hO.block k fun e => by
      subst e
      rcases hm with e | e
      · omega
      · exact hp e) fun k o u hu => .inl ⟨hO.dom k o u hu, hO.frzg _⟩
    mine := fun b l hb => by rw [hO.size]; exact h.mine b l hb
    defs := h.defs
    size := h.size
    slots := by
      intro l y hy
      obtain ⟨v, hv', hr⟩ := h.slots l y hy
      refine ⟨v, by rw [hconc l y hy]; exact hv', hr.keep (Imm.leRefl I) (fun g' sh1 sz1 es1 cap1 e hg' hrow' => ⟨hg', ?_⟩) (fun l2 _ sh2 sz2 es2 he => ⟨⟨sh2, es2, he⟩, hconc l2 _ he⟩) (fun k off _ cs hk => ⟨⟨cs, hk⟩, rfl⟩)⟩
      have hne : g' ≠ g := by
        intro e2
        subst e2 e
        exact (hf l hg').1 _ _ _ hy
      exact hrow'.keep (fun _ h => h) (Imm.leRefl I) (fun _ h => h) (fun o => hO.cell hne o) (fun o => hO.frz hne o)
    boxes := by
      intro k cs hk
      obtain ⟨b, f1, f2, f3, f4⟩ := h.boxes k cs hk
      have hne := hbne k cs hk b f1
      refine ⟨b, f1, f2, f3, fun j hj => ?_⟩
      rw [hO.cell hne, hO.frz hne]
      exact f4 j hj
    quiet := h.quiet
    lk := h.lk.keep (fun _ _ _ h => h) (fun b k _ hb => hO.block b fun e => by subst e; exact (hf _ hb).2 k rfl) fun k cs hk => ⟨⟨cs, hk⟩, rfl⟩ }

/-- More cells never change any more. -/
theorem RI.immFree (h : RI F I own σ a w) {g n : Nat} (hf : FreeW σ own g) (hm : F.mine g) (hn : own g ≠ some (.box F.C.n)) : RI F (I.with w g n) own σ a w := by
  exact {
    st := h.st.step (Imm.with_le h.imm) (fun b hb o ho => by rw [Imm.with_ne fun e => hn (by rw [← e]; exact hb)]; exact ho) (fun _ h => h) (fun _ _ => rfl)
    imm := Imm.with_ok h.imm
    base := h.base.trans (Imm.with_le h.imm)
    inew := by
      intro b o v hb
      by_cases e : b = g
      · subst e; exact .inr hm
      · rw [Imm.with_ne e] at hb; exact h.inew b o v hb
    fr := h.fr
    mko := h.mko
    mine := h.mine
    defs := h.defs
    size := h.size
    slots := by
      intro l y hy
      obtain ⟨v, hv', hr⟩ := h.slots l y hy
      refine ⟨v, hv', hr.keep (Imm.with_le h.imm) (fun g' sh1 sz1 es1 cap1 e hg' hrow' => ⟨hg', ?_⟩) (fun l2 _ sh2 sz2 es2 he => ⟨⟨sh2, es2, he⟩, rfl⟩) (fun k off _ cs hk => ⟨⟨cs, hk⟩, rfl⟩)⟩
      have hne : g' ≠ g := by
        intro e2
        subst e2 e
        exact (hf l hg').1 _ _ _ hy
      exact hrow'.keep (fun _ h => h) (Imm.with_le h.imm) (fun o ho => by rw [Imm.with_ne hne]; exact ho) (fun o => rfl) (fun o => rfl)
    boxes := by
      intro k cs hk
      obtain ⟨b, f1, f2, f3, f4⟩ := h.boxes k cs hk
      refine ⟨b, f1, f2, fun o => ?_, f4⟩
      have hne : b ≠ g := by
        intro e; subst e
        have := (hf _ f2).2 k rfl
        rw [hk] at this; cases this
      rw [Imm.with_ne hne]; exact f3 o
    quiet := h.quiet
    lk := h.lk }

end
end Go.Proofs.Ytmngjlgeojbghaa.VA
end
section
namespace Go.Proofs.Ytmngjlgeojbghaa.VA

section
variable {F : Fx} {I : Imm} {own : Nat → Option Loc} {σ : ASt} {a : Act} {w w' : World}

theorem cell_alloc_fz (w : World) (cur : Array Value) (T : TypeId) (fz : Nat × Nat) (o : Nat) : (w.alloc (.cells cur T fz)).cell? ⟨w.heap.size, o, none⟩ = cur[o]? := by
  show (match (w.heap.push (.cells cur T fz))[w.heap.size]? with | some (.cells c _ _) => if (none : Option Nat).isSome then none else c[o]? | _ => none) = _
  rw [Array.getElem?_push_size]
  rfl
theorem frozen_alloc_fz (w : World) (cur : Array Value) (T : TypeId) (fz : Nat × Nat) (o : Nat) (h : ¬ (fz.1 ≤ o ∧ o < fz.2)) : (w.alloc (.cells cur T fz)).frozen? ⟨w.heap.size, o, none⟩ = false := by
  show (match (w.heap.push (.cells cur T fz))[w.heap.size]? with | some (.cells _ _ (lo, hi)) => decide (lo ≤ o) && decide (o < hi) | _ => false) = _
  rw [Array.getElem?_push_size]
  obtain ⟨lo, hi⟩ := fz
  simp only [Bool.and_eq_false_iff, decide_eq_false_iff_not]
  exact Decidable.not_and_iff_or_not.1 h

/-- The elements of a row: what the cells hold. -/
def Lies (M : Nat → Prop) (I : Imm) (sz : Nat) (es : List AV) (cur : Nat → Option Value) : Prop :=
  ∀ (i : Nat) e, es[i]? = some e → ∃ v, AR M I e v ∧ v.cells.size = sz ∧ ∀ (j : Nat) c, v.cells[j]? = some c → cur (i * sz + j) = some c

theorem RI.row_new (h : RI F I own σ a w) {cur : Array Value} {T : TypeId} {fz : Nat × Nat} {sz cap : Nat} {es : List AV} (hc : es.length ≤ cap) (hm : cap ≤ maxLen) (hs : cur.size = cap * sz)
    (hfz : ∀ o, o < cur.size → ¬ (fz.1 ≤ o ∧ o < fz.2)) (hf2 : 1 < sz → ∀ o, ¬ (fz.1 ≤ o ∧ o < fz.2)) (he : Lies F.mo I sz es fun o => cur[o]?) :
    RI F I own σ a (w.alloc (.cells cur T fz)) ∧ Hand F I own σ (w.alloc (.cells cur T fz)) false sz es (.slice (some ⟨w.heap.size, 0, none⟩) es.length cap) := by
  refine ⟨h.grow (fr_alloc w _ fun j u hu => ?_), .inr ⟨w.heap.size, cap, rfl, fun l hl => ?_, .inl h.fr.size, by simp, ?_⟩⟩
  · rw [cell_alloc_fz] at hu
    exact frozen_alloc_fz w cur T fz j (hfz j (Array.getElem?_eq_some_iff.1 hu).1)
  · rw [h.own_new (Nat.le_refl _)] at hl; cases hl
  · refine ⟨hc, hm, fun o ho => ?_, fun i e hi => ?_, fun e => (by cases e), fun o _ => h.imm_new (Nat.le_refl _) o, fun e o => frozen_alloc_fz w cur T fz o (hf2 e o)⟩
    · have ho' : o < cur.size := by rw [hs]; exact ho
      exact ⟨cur[o], by rw [cell_alloc_fz, Array.getElem?_eq_getElem ho'], frozen_alloc_fz w cur T fz o (hfz o ho')⟩
    · obtain ⟨v, h1, h2, h3⟩ := he i e hi
      exact ⟨v, h1, h2, fun j c hj => by rw [cell_alloc_fz]; exact h3 j c hj⟩

theorem Hand.imm_free {sz : Nat} {es : List AV} {v : Value} (h : RI F I own σ a w) (hh : Hand F I own σ w false sz es v) : ∃ J, Imm.le I J ∧ RI F J own σ a w ∧ Hand F J own σ w true sz es v := by
  rcases hh with hn | ⟨g, cap, rfl, hf, hm, hlt, hr⟩
  · exact ⟨I, Imm.leRefl I, h, .inl hn⟩
  · exact ⟨I.with w g (es.length * sz), Imm.with_le h.imm, h.immFree hf.toW hm (fun e => (hf _ e).2 _ rfl), .inr ⟨g, cap, rfl, hf, hm, hlt, hr.share h.imm⟩⟩
theorem Hand.marked {sh : Bool} {sz : Nat} {es : List AV} {v : Value} (h : RI F I own σ a w) (hh : Hand F I own σ w false sz es v) : ∃ J, Imm.le I J ∧ RI F J own σ a w ∧ Hand F J own σ w sh sz es v := by
  cases sh with
  | false => exact ⟨I, Imm.leRefl I, h, hh⟩
  | true => exact Hand.imm_free h hh

section
variable {P : Program} {t t' ty e : TypeId} {i : TypeInfo} {z : Value} (ht : P.underlying t = some (.slice e)) (hi : P.info? e = some i) (hz : i.zero = some z)
  {d' : TypeDesc} (ht' : P.underlying t' = some d') (hd : ∀ k, d' ≠ .int k) (x : Value) (m : Nat) (news : List Value) (hlen : ∀ w', (Builtin.lenOf x).run P w' = .ok m w')
include ht hi ht' hd hlen

theorem run_app_room (hf : ∀ w', (∀ p, w'.cell? p = w.cell? p) → (Builtin.firstCells i.size m x).run P w' = .ok news.toArray w') (hl : news.length = m * i.size) (h1 : ∀ v ∈ news, v.oneCell' = true)
    (g n cap : Nat) (hroom : n + m ≤ cap) (hcells : ∀ o, o < cap * i.size → ∃ v, w.cell? ⟨g, o, none⟩ = some v ∧ w.frozen? ⟨g, o, none⟩ = false) :
    (Builtin.append_ #[t, t'] ty #[.slice (some ⟨g, 0, none⟩) n cap, x]).run P w = .ok (.slice (some ⟨g, 0, none⟩) (n + m) cap) (w.setCells g (n * i.size) news) := by
  have hb : n * i.size + m * i.size ≤ cap * i.size := by rw [← Nat.add_mul]; exact Nat.mul_le_mul_right _ hroom
  have hst := run_storeCells_cells (P := P) g (n * i.size) news 0 w
    (fun j hj => by obtain ⟨v, hv, _⟩ := hcells (n * i.size + 0 + j) (by omega); rw [hv]; rfl)
    (fun j hj => by obtain ⟨v, _, hv⟩ := hcells (n * i.size + 0 + j) (by omega); exact hv) h1
  simp only [Nat.add_zero] at hst
  simp [Builtin.append_, run_underlying ht, run_underlying ht', sizeOf, typeInfo, hi, hlen, hroom, hf w (fun _ => rfl), Addr.add_lit, hst]
  all_goals (cases d' <;> simp_all)

theorem run_app_nil (cap : Nat) (hm : m = 0) (hf : ∀ w', (∀ p, w'.cell? p = w.cell? p) → (Builtin.firstCells i.size m x).run P w' = .ok news.toArray w') :
    (Builtin.append_ #[t, t'] ty #[.slice none 0 cap, x]).run P w = .ok (.slice none 0 cap) w := by
  subst hm
  have := hf w (fun _ => rfl)
  simp [Builtin.append_, run_underlying ht, run_underlying ht', sizeOf, typeInfo, hi, hlen, this]
  all_goals (cases d' <;> simp_all)

include hz in
theorem run_app_grow (hf : ∀ w', (∀ p, w'.cell? p = w.cell? p) → (Builtin.firstCells i.size m x).run P w' = .ok news.toArray w')
    (base : Option Addr) (n cap : Nat) (olds : List Value) (hold : ∀ w', (∀ p, w'.cell? p = w.cell? p) → (Builtin.firstCells i.size n (.slice base n cap)).run P w' = .ok olds.toArray w')
    (hg : cap < n + m) (h63 : n + m ≤ 9223372036854775807) (hfit : Builtin.nextslicecap (n + m) cap * i.bytes ≤ 281474976710656) :
    (Builtin.append_ #[t, t'] ty #[.slice base n cap, x]).run P w =
      .ok (.slice (some ⟨w.heap.size, 0, none⟩) (n + m) (grownCap w (n + m) cap e)) (w.drew.alloc (.cells (olds.toArray ++ news.toArray ++ Builtin.zeroCells z.cells (grownCap w (n + m) cap e - (n + m))) e)) := by
  have hn : ¬ (n + m ≤ cap) := by omega
  have h63' : ¬ (9223372036854775807 < ((n : Int) + (m : Int))) := by omega
  have h48' : ¬ (281474976710656 < Builtin.nextslicecap (n + m) cap * i.bytes) := by omega
  have h1 := hf w.drew (fun _ => rfl)
  have h2 := hold w.drew (fun _ => rfl)
  simp [Builtin.append_, run_underlying ht, run_underlying ht', sizeOf, typeInfo, zeroValue, hi, hz, hlen, hn, h63', h48', Question.forced, h1, h2, newRow, grownCap]
  have e1 : olds.toArray ++ (news.toArray ++ Builtin.zeroCells z.cells ((Question.appendCap (n + m) cap e).cut (w.tape w.drawn (Question.appendCap (n + m) cap e)) - (n + m))) =
      (olds ++ news).toArray ++ Builtin.zeroCells z.cells ((Question.appendCap (n + m) cap e).cut (w.tape w.drawn (Question.appendCap (n + m) cap e)) - (n + m)) := by
    rw [← Array.append_assoc]; simp
  cases d' with
  | int k => exact (hd k rfl).elim
  | _ => simp [e1]
end

theorem Lies.app {M : Nat → Prop} {sz : Nat} {es xs : List AV} {cur : Nat → Option Value} (h1 : Lies M I sz es cur) (h2 : Lies M I sz xs fun o => cur (es.length * sz + o)) : Lies M I sz (es ++ xs) cur := by
  intro i e he
  by_cases hi : i < es.length
  · rw [List.getElem?_append_left hi] at he
    exact h1 i e he
  · rw [List.getElem?_append_right (by omega)] at he
    obtain ⟨v, v1, v2, v3⟩ := h2 _ e he
    refine ⟨v, v1, v2, fun j c hj => ?_⟩
    have := v3 j c hj
    simp only at this
    rw [← this]
    congr 1
    rw [← Nat.add_assoc, ← Nat.add_mul]
    congr 2; omega
theorem Lies.weak {M : Nat → Prop} {sz : Nat} {es : List AV} {cur cur' : Nat → Option Value} (h : Lies M I sz es cur) (hc : ∀ o c, o < es.length * sz → cur o = some c → cur' o = some c) : Lies M I sz es cur' := by
  intro i e he
  obtain ⟨v, v1, v2, v3⟩ := h i e he
  refine ⟨v, v1, v2, fun j c hj => hc _ c (idx_lt (List.getElem?_eq_some_iff.1 he).1 ?_) (v3 j c hj)⟩
  rw [← v2]; exact (Array.getElem?_eq_some_iff.1 hj).1
theorem Row.lies {M : Nat → Prop} {g : Nat} {sh : Bool} {sz cap : Nat} {es : List AV} (h : Row M I w g sh sz es cap) : Lies M I sz es fun o => w.cell? ⟨g, o, none⟩ := h.elems

/-- What is laid behind a row. -/
structure Src (P : Program) (w : World) (sz : Nat) (x : Value) (m : Nat) (news : List Value) : Prop where
  len : ∀ w', (Builtin.lenOf x).run P w' = .ok m w'
  first : ∀ w', (∀ p, w'.cell? p = w.cell? p) → (Builtin.firstCells sz m x).run P w' = .ok news.toArray w'
  length : news.length = m * sz
  one : ∀ v ∈ news, v.oneCell' = true

theorem size_zeroCells' (z : Array Value) (n : Nat) : (Builtin.zeroCells z n).size = n * z.size := by simp [Builtin.zeroCells]

theorem append_hand {P : Program} {t t' ty e : TypeId} {i : TypeInfo} {z : Value} (ht : P.underlying t = some (.slice e)) (hi : P.info? e = some i) (hz : i.zero = some z)
    {d' : TypeDesc} (ht' : P.underlying t' = some d') (hd : ∀ k, d' ≠ .int k) {sz : Nat} (hsz : i.size = sz) (hzs : z.cells.size = sz) (hbp : 0 < i.bytes)
    (h : RI F I own σ a w) {sh : Bool} {es : List AV} {v : Value} (hh : Hand F I own σ w sh sz es v) {x : Value} {news : List Value} {xs : List AV} (hx : Src P w sz x xs.length news)
    (hxs : Lies F.mo I sz xs fun o => news[o]?) (hb : (es.length + xs.length) * i.bytes ≤ 140737488355328) :
    ∃ v' w' J, (Builtin.append_ #[t, t'] ty #[v, x]).run P w = .ok v' w' ∧ Imm.le I J ∧ RI F J own σ a w' ∧ Hand F J own σ w' sh sz (es ++ xs) v' := by
  subst hsz
  have h63 : es.length + xs.length ≤ 9223372036854775807 := by
    have : (es.length + xs.length) * 1 ≤ (es.length + xs.length) * i.bytes := Nat.mul_le_mul_left _ hbp
    omega
  -- a new row
  have grown : ∀ (base : Option Addr) (cap : Nat) (olds : List Value), olds.length = es.length * i.size →
      (∀ w', (∀ p, w'.cell? p = w.cell? p) → (Builtin.firstCells i.size es.length (.slice base es.length cap)).run P w' = .ok olds.toArray w') →
      Lies F.mo I i.size es (fun o => olds[o]?) → cap < es.length + xs.length →
      ∃ v' w' J, (Builtin.append_ #[t, t'] ty #[.slice base es.length cap, x]).run P w = .ok v' w' ∧ Imm.le I J ∧ RI F J own σ a w' ∧ Hand F J own σ w' sh i.size (es ++ xs) v' := by
    intro base cap olds hol hold hlo hg
    have hr := run_app_grow (P := P) (w := w) (ty := ty) ht hi hz ht' hd x xs.length news hx.len hx.first base es.length cap olds hold hg h63 (growslice_fits hg hb)
    have hge := grownCap_ge w (es.length + xs.length) cap e
    have hcm := grownCap_le_maxLen w (es.length + xs.length) cap e (by simp only [maxLen]; omega)
    have hlies : Lies F.mo I i.size (es ++ xs) (fun o => (olds.toArray ++ news.toArray ++ Builtin.zeroCells z.cells (grownCap w (es.length + xs.length) cap e - (es.length + xs.length)))[o]?) := by
      refine Lies.app (hlo.weak fun o c ho hc => ?_) (hxs.weak fun o c ho hc => ?_)
      · rw [Array.getElem?_append_left (by simp [hol]; omega), Array.getElem?_append_left (by simp [hol]; omega)]
        simpa using hc
      · have hnl := hx.length
        rw [Array.getElem?_append_left (by simp [hol, hnl]; omega), Array.getElem?_append_right (by simp [hol])]
        simpa [hol] using hc
    have hd1 := h.grow (fr_drew w)
    obtain ⟨h2, hh2⟩ := hd1.row_new (T := e) (fz := (0, 0)) (sz := i.size) (cap := grownCap w (es.length + xs.length) cap e) (es := es ++ xs) (cur := olds.toArray ++ news.toArray ++ Builtin.zeroCells z.cells (grownCap w (es.length + xs.length) cap e - (es.length + xs.length)))
      (by simp; omega) hcm (by
        simp only [Array.size_append, List.size_toArray, size_zeroCells', hzs, hol, hx.length, ← Nat.add_mul]
        congr 1; omega) (fun o _ => by simp) (fun _ o => by simp) hlies
    obtain ⟨J, j1, j2, j3⟩ := Hand.marked (sh := sh) h2 hh2
    refine ⟨_, _, J, hr, j1, j2, ?_⟩
    simpa using j3
  rcases hh with ⟨rfl, rfl⟩ | ⟨g, cap, rfl, hf, hm, hlt, hr⟩
  · by_cases hx0 : xs.length = 0
    · obtain rfl : xs = [] := List.eq_nil_of_length_eq_zero hx0
      exact ⟨_, w, I, run_app_nil (P := P) (w := w) ht hi ht' hd x 0 news hx.len 0 rfl hx.first, Imm.leRefl I, h, .inl ⟨rfl, rfl⟩⟩
    · exact grown none 0 [] (by simp) (fun w' _ => by simp [Builtin.firstCells]) (fun i e he => by simp at he) (by simp; omega)
  · have hcs : es.length * i.size ≤ cap * i.size := Nat.mul_le_mul_right _ hr.le
    by_cases hroom : es.length + xs.length ≤ cap
    · have hrun := run_app_room (P := P) (w := w) (ty := ty) ht hi ht' hd x xs.length news hx.len hx.first hx.length hx.one g es.length cap hroom hr.cells
      have hnl := hx.length
      have hcs2 : es.length * i.size + xs.length * i.size ≤ cap * i.size := by rw [← Nat.add_mul]; exact Nat.mul_le_mul_right _ hroom
      have hW := wr_setCells w g (es.length * i.size) news fun j hj => by
        obtain ⟨v, hv, _⟩ := hr.cells (es.length * i.size + j) (by omega)
        rw [hv]; rfl
      have hIok : Imm.ok I (w.setCells g (es.length * i.size) news) := by
        intro b o v hb
        by_cases e1 : b = g
        · subst e1
          by_cases e2 : o < es.length * i.size
          · rw [hW.cout o (.inl e2)]; exact h.imm b o v hb
          · rw [hr.immn o (fun _ => by omega)] at hb; cases hb
        · rw [hW.cell_ne e1 o]; exact h.imm b o v hb
      have h2 := h.onlyFree hW.only hf hm hIok
      have hlies : Lies F.mo I i.size (es ++ xs) fun o => (w.setCells g (es.length * i.size) news).cell? ⟨g, o, none⟩ := by
        refine Lies.app (hr.lies.weak fun o c ho hc => ?_) (hxs.weak fun o c ho hc => ?_)
        · rw [hW.cout o (.inl ho)]; exact hc
        · have := hW.cin o (by omega)
          rw [this]; exact hc
      have hcells : ∀ o, o < cap * i.size → ∃ v, (w.setCells g (es.length * i.size) news).cell? ⟨g, o, none⟩ = some v ∧ (w.setCells g (es.length * i.size) news).frozen? ⟨g, o, none⟩ = false := by
        intro o ho
        obtain ⟨v, v1, v2⟩ := hr.cells o ho
        rw [hW.frz]
        by_cases e1 : es.length * i.size ≤ o ∧ o < es.length * i.size + news.length
        · have := hW.cin (o - es.length * i.size) (by omega)
          rw [show es.length * i.size + (o - es.length * i.size) = o by omega] at this
          exact ⟨news[o - es.length * i.size]'(by omega), by rw [this, List.getElem?_eq_getElem (by omega)], v2⟩
        · exact ⟨v, by rw [hW.cout o (by omega)]; exact v1, v2⟩
      have hsize : (w.setCells g (es.length * i.size) news).heap.size = w.heap.size := hW.size
      cases sh with
      | false =>
        refine ⟨_, _, I, hrun, Imm.leRefl I, h2, .inr ⟨g, cap, by simp, hf, hm, by rw [hsize]; exact hlt, ?_⟩⟩
        exact ⟨by simp; omega, hr.capm, hcells, hlies, fun e => (by cases e), fun o _ => hr.immn o (fun e => by cases e), fun e o => by rw [hW.frz]; exact hr.frz e o⟩
      | true =>
        refine ⟨_, _, I.with (w.setCells g (es.length * i.size) news) g ((es ++ xs).length * i.size), hrun, Imm.with_le hIok, h2.immFree hf.toW hm (fun e => (hf _ e).2 _ rfl), .inr ⟨g, cap, by simp, hf, hm, by rw [hsize]; exact hlt, ?_⟩⟩
        refine ⟨by simp; omega, hr.capm, hcells, fun i' e' he' => ?_, fun _ o v ho hv => ?_, fun o ho => ?_, fun e o => by rw [hW.frz]; exact hr.frz e o⟩
        · obtain ⟨v, v1, v2, v3⟩ := hlies i' e' he'
          exact ⟨v, v1.mono (fun _ h => h) (Imm.with_le hIok), v2, v3⟩
        · unfold Imm.with
          rw [if_pos ⟨rfl, ho⟩]; exact hv
        · have ho' := ho rfl
          unfold Imm.with
          rw [if_neg (by omega)]
          refine hr.immn o fun _ => ?_
          have : es.length * i.size ≤ (es ++ xs).length * i.size := Nat.mul_le_mul_right _ (by simp)
          omega
    · obtain ⟨olds, ol1, ol2⟩ : ∃ olds : List Value, olds.length = es.length * i.size ∧ ∀ o, o < es.length * i.size → olds[o]? = w.cell? ⟨g, o, none⟩ := by
        refine ⟨(List.range (es.length * i.size)).map fun o => (w.cell? ⟨g, o, none⟩).getD undef, by simp, fun o ho => ?_⟩
        obtain ⟨v, v1, _⟩ := hr.cells o (by omega)
        simp [ho, v1]
      refine grown (some ⟨g, 0, none⟩) cap olds ol1 (fun w' hw' => ?_) (hr.lies.weak fun o c ho hc => ?_) (by omega)
      · refine run_firstCells_some w' i.size es.length ⟨g, 0, none⟩ es.length cap olds ol1 fun j v hj => ?_
        have hjl := (List.getElem?_eq_some_iff.1 hj).1
        rw [hw', Addr.add_lit, Nat.zero_add, ← ol2 j (by omega)]
        exact hj
      · rw [ol2 o ho]; exact hc

end
end Go.Proofs.Ytmngjlgeojbghaa.VA
end
section
namespace Go.Proofs.Ytmngjlgeojbghaa.VA

def zeroIs : AV → Value → Prop
  | .int k n, v => v = .int k n
  | .bool b, v => v = .bool b
  | .str s, v => v = .string ⟨s.toArray⟩
  | .own _ _ es, v => es = [] ∧ v = .slice none 0 0
  | .nilf, v => v = .nilFunc
  | _, _ => False

def FitK (P : Program) (T : TypeId) : TK → Prop
  | .int k => P.underlying T = some (.int k)
  | .bool => P.underlying T = some .bool
  | .str => P.underlying T = some .string
  | .func => ∃ x y z, P.underlying T = some (.func x y z)
  | .slice e esz eb => P.underlying T = some (.slice e) ∧ ∃ i z, P.info? e = some i ∧ i.size = esz ∧ i.bytes = eb ∧ 0 < eb ∧ i.zero = some z ∧ z.cells.size = esz ∧ 0 < esz
  | .arr n e esz => P.underlying T = some (.array n e) ∧ ∃ i, P.info? e = some i ∧ i.size = esz ∧ 0 < esz
  | .struct fs => ∃ A, P.underlying T = some (.struct A) ∧ A.size = fs.length ∧ ∀ (j off sz : Nat) ft, fs[j]? = some (off, sz, ft) → ∃ f i, A[j]? = some f ∧ f.offset = off ∧ f.type = ft ∧ P.info? ft = some i ∧ i.size = sz ∧ 0 < sz
  | .other => False
structure Fit (P : Program) (ti : TypeId → TI) (T : TypeId) : Prop where
  kind : FitK P T (ti T).kind
  info : ∃ i z, P.info? T = some i ∧ i.size = (ti T).size ∧ i.zero = some z ∧ z.cells.size = (ti T).size ∧ (ti T).zero.length = (ti T).size ∧
    (∀ (j : Nat) x v, (ti T).zero[j]? = some x → z.cells[j]? = some v → zeroIs x v) ∧ ((ti T).kind.isAgg = true → ∃ cs, z = .agg cs) ∧ ((ti T).kind.isAgg = false → (ti T).size = 1 ∧ z.oneCell' = true)
structure CfgOk (C : Cfg) : Prop where
  mixed : C.P.follows .mixedOrders = true
  fit : ∀ T, (C.ti T).kind.known = true → Fit C.P C.ti T

section
variable {F : Fx} {I : Imm} {own : Nat → Option Loc} {σ : ASt} {a : Act} {w w' : World}

theorem fit_isAgg {P : Program} {ti : TypeId → TI} {T : TypeId} (h : Fit P ti T) (w : World) : (isAgg T).run P w = .ok (ti T).kind.isAgg w := by
  have hk := h.kind
  unfold isAgg
  cases hq : (ti T).kind with
  | int k => rw [hq] at hk; simp [run_underlying (show P.underlying T = _ from hk), TK.isAgg]
  | bool => rw [hq] at hk; simp [run_underlying (show P.underlying T = _ from hk), TK.isAgg]
  | str => rw [hq] at hk; simp [run_underlying (show P.underlying T = _ from hk), TK.isAgg]
  | slice e esz eb => rw [hq] at hk; simp [run_underlying hk.1, TK.isAgg]
  | arr n e esz => rw [hq] at hk; simp [run_underlying hk.1, TK.isAgg]
  | struct fs => rw [hq] at hk; obtain ⟨A, hk, _⟩ := hk; simp [run_underlying hk, TK.isAgg]
  | func => rw [hq] at hk; obtain ⟨x, y, z, hk⟩ := hk; simp [run_underlying hk, TK.isAgg]
  | other => rw [hq] at hk; exact hk.elim
theorem fit_sizeOf {P : Program} {ti : TypeId → TI} {T : TypeId} (h : Fit P ti T) (w : World) : (sizeOf T).run P w = .ok (ti T).size w := by
  obtain ⟨i, z, h1, h2, _⟩ := h.info
  simp [sizeOf, typeInfo, h1, h2]

/-- What is read of an operand. -/
def RV (F : Fx) (I : Imm) (own : Nat → Option Loc) (σ : ASt) (a : Act) (w : World) : AV → Value → Prop
  | .own sh _ es, v => sh = false ∧ es = [] ∧ v = .slice none 0 0
  | .tup _, _ => False
  | x, v => SRep F I own σ a w (.box 0) x v

theorem srep_any {l l' : Loc} {x : AV} {v : Value} (hx : ∀ sh sz es, x ≠ .own sh sz es) (h : SRep F I own σ a w l x v) : SRep F I own σ a w l' x v := by
  cases x with
  | own sh sz es => exact absurd rfl (hx _ _ _)
  | elt y i off => cases y <;> exact h
  | _ => exact h
theorem rv_srep {l : Loc} {x : AV} {v : Value} (hx : ∀ sh sz es, x ≠ .own sh sz es) (h : RV F I own σ a w x v) : SRep F I own σ a w l x v := by
  cases x with
  | own sh sz es => exact absurd rfl (hx _ _ _)
  | tup vs => exact h.elim
  | elt y i off => cases y <;> exact h
  | _ => exact h
theorem srep_rv {l : Loc} {x : AV} {v : Value} (hx : ∀ sh sz es, x ≠ .own sh sz es) (hy : ∀ vs, x ≠ .tup vs) (h : SRep F I own σ a w l x v) : RV F I own σ a w x v := by
  cases x with
  | own sh sz es => exact absurd rfl (hx _ _ _)
  | tup vs => exact absurd rfl (hy _)
  | elt y i off => cases y <;> exact h
  | _ => exact h
theorem rv_imm {x : AV} {v : Value} (hx : x.isImm = true) : RV F I own σ a w x v ↔ AR F.mo I x v := by
  cases x <;> first | exact Iff.rfl | (simp [AV.isImm] at hx)

theorem constC_ok {M : Nat → Prop} {v : Value} {x : AV} (e : AV.constC v = some x) : AR M I x v ∧ v.oneCell' = true := by
  unfold AV.constC at e
  split at e <;> cases e
  · exact ⟨.bool _, rfl⟩
  · exact ⟨.int _ _, rfl⟩
  · rename_i s
    have : AR M I (.str s.data.toList) (.string ⟨s.data.toList.toArray⟩) := .str _
    rw [show (⟨s.data.toList.toArray⟩ : ByteArray) = s by cases s; simp] at this
    exact ⟨this, rfl⟩
  · exact ⟨.nilf, rfl⟩
  · exact ⟨.ext nilP I _ (fun _ _ _ e => e) rfl rfl, rfl⟩
theorem constCs_ok {M : Nat → Prop} : ∀ {vs : List Value} {xs : List AV}, AV.constCs vs = some xs → xs.length = vs.length ∧ (∀ (j : Nat) v, vs[j]? = some v → v.oneCell' = true) ∧ ∀ (j : Nat) c v, xs[j]? = some c → vs[j]? = some v → AR M I c v
  | [], xs, e => by
    rw [AV.constCs] at e
    cases e
    exact ⟨rfl, fun j v h => (by cases h), fun j c v h => (by cases h)⟩
  | v :: vs, xs, e => by
    rw [AV.constCs] at e
    cases h1 : AV.constC v with
    | none => rw [h1] at e; cases h2 : AV.constCs vs <;> rw [h2] at e <;> cases e
    | some x =>
      cases h2 : AV.constCs vs with
      | none => rw [h1, h2] at e; cases e
      | some ys =>
        rw [h1, h2] at e
        cases e
        obtain ⟨l1, l2, l3⟩ := constCs_ok (M := M) h2
        obtain ⟨c1, c2⟩ := constC_ok (M := M) (I := I) h1
        refine ⟨by simp [l1], fun j u hu => ?_, fun j c u hc hu => ?_⟩
        · cases j with
          | zero => cases hu; exact c2
          | succ j => exact l2 j u hu
        · cases j with
          | zero => cases hc; cases hu; exact c1
          | succ j => exact l3 j c u hc hu
theorem rd_ok (h : RI F I own σ a w) (C : Cfg) (T : TypeId) (x : Operand) : RV F I own σ a w (σ.rd C T x) (a.eval x) := by
  cases x with
  | tmp i =>
    simp only [ASt.rd]
    cases hl : look σ.tmps i with
    | none => exact trivial
    | some y =>
      obtain ⟨v, hv, hr⟩ := h.slots (.tmp i) y hl
      have he : a.eval (.tmp i) = v := by
        simp only [conc] at hv
        simp only [Act.eval, Array.getD_eq_getD_getElem?, hv, Option.getD_some]
      rw [he]
      cases y with
      | own sh sz es =>
        intro sh' sz' es' _
        exact hv
      | tup vs => exact trivial
      | hd b z p =>
        have har : AR F.mo I (.hd b z p) v := hr
        cases b with
        | false => exact (rv_imm rfl).2 har
        | true =>
          cases har with
          | hd _ _ _ _ _ hx hi => exact (rv_imm hi).2 hx
      | _ => exact srep_rv (fun _ _ _ e => by cases e) (fun _ e => by cases e) hr
  | const v =>
    simp only [ASt.rd, Act.eval]
    unfold AV.const
    split
    · exact .bool _
    · exact .int _ _
    · rename_i s
      have : AR F.mo I (.str s.data.toList) (.string ⟨s.data.toList.toArray⟩) := .str _
      rw [show (⟨s.data.toList.toArray⟩ : ByteArray) = s by cases s; simp] at this
      exact this
    · exact .nilf
    · unfold AV.nilOf
      split
      · exact ⟨rfl, rfl, rfl⟩
      · exact trivial
    · rename_i vs
      cases e : AV.constCs vs.toList with
      | none => exact trivial
      | some cs =>
        obtain ⟨l1, l2, l3⟩ := constCs_ok (M := F.mo) (I := I) e
        exact .agg cs vs (by rw [l1]; simp) (fun j v hv => l2 j v (by simpa using hv)) fun j c v hc hv => l3 j c v hc (by simpa using hv)
    · exact trivial
  | func f => exact .fn f
  | global g => exact trivial

/-- A value taken as one that never changes any more. -/
theorem imm_okMore (h : RI F I own σ a w) {x y : AV} {v : Value} {τ : ASt} (hx : RV F I own σ a w x v) (he : σ.imm x = some (y, τ)) : ∃ J, Imm.le I J ∧ RI F J own τ a w ∧ AR F.mo J y v ∧ ∀ b, Free σ own b → Free τ own b ∧ ∀ o, J b o = I b o := by
  have him : ∀ {x : AV}, RV F I own σ a w x v → x.isImm = true → (if x.isImm = true then some (x, σ) else none) = some (y, τ) → ∃ J, Imm.le I J ∧ RI F J own τ a w ∧ AR F.mo J y v ∧ ∀ b, Free σ own b → Free τ own b ∧ ∀ o, J b o = I b o := by
    intro x hx hi he
    rw [if_pos hi] at he
    cases he
    exact ⟨I, Imm.leRefl I, h, (rv_imm hi).1 hx, fun b hb => ⟨hb, fun _ => rfl⟩⟩
  cases x with
  | own sh sz es =>
    obtain ⟨rfl, rfl, rfl⟩ := hx
    simp only [ASt.imm, Option.some.injEq, Prod.mk.injEq] at he
    obtain ⟨rfl, rfl⟩ := he
    exact ⟨I, Imm.leRefl I, h, .slnil true sz none 0, fun b hb => ⟨hb, fun _ => rfl⟩⟩
  | ref l =>
    simp only [ASt.imm] at he
    cases hl : σ.at l with
    | none => rw [hl] at he; cases he
    | some q =>
      rw [hl] at he
      cases q <;> simp only [ASt.immRef] at he <;> try cases he
      rename_i sh sz es
      by_cases hp : l.plain = true
      · rw [if_pos hp] at he
        simp only [Option.some.injEq, Prod.mk.injEq] at he
        obtain ⟨rfl, rfl⟩ := he
        obtain ⟨J, u, h1, h2, h3, h4, h5⟩ := h.markMore hp hl
        have hv : conc a w l = some v := hx sh sz es hl
        rw [h1] at hv
        cases hv
        refine ⟨J, h2, h3, h4, fun b hb => ⟨fun l' hl' => ⟨fun sh' sz' es' he => ?_, fun k e => ?_⟩, h5 b fun e => (hb l e).1 _ _ _ hl⟩⟩
        · rw [at_turn (sh' := true) (sz' := sz) (es' := es) hp hl l'] at he
          by_cases e : l' = l
          · subst e; exact (hb l' hl').1 _ _ _ hl
          · rw [if_neg e] at he; exact (hb l' hl').1 _ _ _ he
        · exact (hb l' hl').2 k e
      · rw [if_neg hp] at he; cases he
  | bot => simp [ASt.imm, AV.isImm] at he
  | undef => simp [ASt.imm, AV.isImm] at he
  | tup vs => exact hx.elim
  | var k off => simp [ASt.imm, AV.isImm] at he
  | elt x i off => simp [ASt.imm, AV.isImm] at he
  | bool => exact him hx rfl he
  | int => exact him hx rfl he
  | str => exact him hx rfl he
  | fn => exact him hx rfl he
  | nilf => exact him hx rfl he
  | agg => exact him hx rfl he
  | sl => exact him hx rfl he
  | hd => exact him hx rfl he
  | ext => exact him hx rfl he

theorem imm_ok (h : RI F I own σ a w) {x y : AV} {v : Value} {τ : ASt} (hx : RV F I own σ a w x v) (he : σ.imm x = some (y, τ)) : ∃ J, Imm.le I J ∧ RI F J own τ a w ∧ AR F.mo J y v := by
  obtain ⟨J, h1, h2, h3, _⟩ := imm_okMore h hx he
  exact ⟨J, h1, h2, h3⟩

/-- The elements of a slice in memory. -/
structure Holds (F : Fx) (I : Imm) (w : World) (sz : Nat) (es : List AV) (base : Option Addr) (n cap : Nat) : Prop where
  n_eq : n = es.length
  le : n ≤ cap
  at_ : ∀ (i : Nat) e, es[i]? = some e → ∃ b o, base = some ⟨b, o, none⟩ ∧ Lies F.mo I sz es fun q => w.cell? ⟨b, o + q, none⟩

theorem ar_holds {M : Nat → Prop} (hI : Imm.ok I w) {fr : Bool} {sz : Nat} {es : List AV} {v : Value} (h : AR M I (.sl fr sz es) v) :
    ∃ base n cap, v = .slice base n cap ∧ n = es.length ∧ n ≤ cap ∧ ∀ (i : Nat) e, es[i]? = some e → ∃ b o, base = some ⟨b, o, none⟩ ∧ Lies M I sz es fun q => w.cell? ⟨b, o + q, none⟩ := by
  cases h with
  | slnil => exact ⟨_, 0, _, rfl, rfl, Nat.zero_le _, fun i e he => by simp at he⟩
  | sl _ _ _ b o n cap hn hc vs hv hz hc' =>
    refine ⟨_, n, cap, rfl, hn, hc, fun _ _ _ => ⟨b, o, rfl, fun i e he => ?_⟩⟩
    have hi := (List.getElem?_eq_some_iff.1 he).1
    refine ⟨vs i, hv i e he, hz i hi, fun j c hj => ?_⟩
    have := hI _ _ _ (hc' i j c hi hj)
    rw [Nat.add_assoc] at this
    exact this

theorem cont_ok (h : RI F I own σ a w) {x : AV} {v : Value} {sz : Nat} {es : List AV} (hx : RV F I own σ a w x v) (he : σ.cont x = some (sz, es)) : ∃ base n cap, v = .slice base n cap ∧ Holds F I w sz es base n cap := by
  cases x with
  | sl fr sz' es' =>
    simp only [ASt.cont, AV.elemsOf, Option.some.injEq, Prod.mk.injEq] at he
    obtain ⟨rfl, rfl⟩ := he
    obtain ⟨base, n, cap, h1, h2, h3, h4⟩ := ar_holds h.imm ((rv_imm rfl).1 hx)
    exact ⟨base, n, cap, h1, h2, h3, h4⟩
  | own sh sz' es' =>
    obtain ⟨rfl, rfl, rfl⟩ := hx
    simp only [ASt.cont, AV.elemsOf, Option.some.injEq, Prod.mk.injEq] at he
    obtain ⟨rfl, rfl⟩ := he
    exact ⟨none, 0, 0, rfl, rfl, Nat.le_refl _, fun i e he => by simp at he⟩
  | ref l =>
    simp only [ASt.cont] at he
    cases hl : σ.at l with
    | none => rw [hl] at he; cases he
    | some q =>
      rw [hl] at he
      cases q <;> simp only [AV.elemsO] at he <;> try cases he
      rename_i sh
      have hv : conc a w l = some v := hx sh sz es hl
      obtain ⟨u, hu, hr⟩ := h.slots l _ hl
      rw [hv] at hu
      cases hu
      rcases hr with ⟨rfl, rfl⟩ | ⟨g, cap, rfl, _, hrow⟩
      · exact ⟨none, 0, 0, rfl, rfl, Nat.le_refl _, fun i e he => by simp at he⟩
      · refine ⟨_, _, cap, rfl, rfl, hrow.le, fun _ _ _ => ⟨g, 0, rfl, ?_⟩⟩
        have := hrow.lies
        simpa only [Nat.zero_add] using this
  | _ => simp [ASt.cont, AV.elemsOf] at he

/-- Nothing is locked. -/
def Fx.open (F : Fx) : Prop := (∀ k, F.lv k = false) ∧ ∀ b, ¬ F.lk b
/-- What F must be for calls of another kind. -/
def Fx.spo (F : Fx) : Prop := (∃ f, F.C.spc f = true) → (∀ b, F.mo b → F.w0.heap.size ≤ b) ∧ ∀ b o u, F.I0 b o = some u → b < F.w0.heap.size

/-- What is owed behind an operation. -/
def Post (F : Fx) (K : ASt → Prop) (a : Act) (w : World) : Prop := ∃ I own σ, RI F I own σ a w ∧ K σ

theorem chk_ok {C : Cfg} {K : ASt → Prop} {b : Bool} {r : R} (h : (R.chk b r).wp C K) : b = true ∧ r.wp C K := by
  unfold R.chk at h
  split at h
  · rename_i hb; exact ⟨hb, h⟩
  · exact h.elim

/-- A value goes to its temporary. -/
theorem wr_ok {C : Cfg} (hC : F.C = C) {K : ASt → Prop} (h : RI F I own σ a w) {d : Option Nat} {x : AV} {v : Value} (hw : (σ.wr C d x).wp C K) (hn : ∀ sh sz es, x ≠ .own sh sz es) (hx : RV F I own σ a w x v) : Post F K (a.put d v) w := by
  cases d with
  | none => exact ⟨I, own, σ, h, hw⟩
  | some t =>
    obtain ⟨h1, h2⟩ := chk_ok hw
    simp only [Bool.and_eq_true, Option.isNone_iff_eq_none] at h1
    have ht : F.C.may t = true := by rw [hC]; exact h1.1
    have key : (∀ vs, x ≠ .tup vs) → K (σ.put t x) → Post F K (a.put (some t) v) w := fun hy hk => ⟨I, own, _, h.put ht h1.2 hn hy (rv_srep hn hx), hk⟩
    cases x with
    | own sh sz es => exact absurd rfl (hn _ _ _)
    | tup vs => exact hx.elim
    | _ => exact key (fun _ e => by cases e) h2
theorem wr_own {C : Cfg} (hC : F.C = C) {K : ASt → Prop} (h : RI F I own σ a w) {d : Option Nat} {sh : Bool} {sz : Nat} {es : List AV} {v : Value} (hw : (σ.wr C d (.own sh sz es)).wp C K) (hh : Hand F I own σ w sh sz es v) : Post F K (a.put d v) w := by
  cases d with
  | none => exact ⟨I, own, σ, h, hw⟩
  | some t =>
    obtain ⟨h1, h2⟩ := chk_ok hw
    simp only [Bool.and_eq_true, Option.isNone_iff_eq_none] at h1
    have ht : F.C.may t = true := by rw [hC]; exact h1.1
    exact ⟨I, _, _, h.putOwn ht h1.2 hh, h2⟩
/-- An operand's value goes to a temporary. -/
theorem wr_rv {C : Cfg} (hC : F.C = C) {K : ASt → Prop} (h : RI F I own σ a w) {d : Option Nat} {x : AV} {v : Value} (hw : (σ.wr C d x).wp C K) (hx : RV F I own σ a w x v) : Post F K (a.put d v) w := by
  by_cases hn : ∃ sh sz es, x = .own sh sz es
  · obtain ⟨sh, sz, es, rfl⟩ := hn
    obtain ⟨rfl, rfl, rfl⟩ := hx
    exact wr_own hC h hw (.inl ⟨rfl, rfl⟩)
  · exact wr_ok hC h hw (fun sh sz es e => hn ⟨sh, sz, es, e⟩) hx

end
end Go.Proofs.Ytmngjlgeojbghaa.VA
end
section
namespace Go.Proofs.Ytmngjlgeojbghaa.VA
section
variable {F : Fx} {I : Imm} {own : Nat → Option Loc} {σ : ASt} {a : Act} {w w' : World} {C : Cfg} {K : ASt → Prop} {Q : Exit → Act → World → Prop}

theorem by_value {P : Program} {o : Oper} {next : Act → World → Prop} {v : Value} (hr : (execOp a.eval o).run P w = .ok (.value v) w') (hp : next (a.put o.dst v) w') : o.wp P a w next Q := by
  unfold Oper.wp; rw [hr]; exact hp
/-- A world that comes later: what never changes is there, what is locked stays. -/
def Later (F : Fx) (I : Imm) (w2 : World) : Prop := Imm.ok I w2 ∧ ∀ b, F.lk b → w2.heap[b]? = F.w0.heap[b]?
/-- An operation that yields its value in every later world. -/
def Quiet (F : Fx) (I : Imm) (P : Program) (o : Oper) (a : Act) (w : World) (next : Act → World → Prop) : Prop :=
  ∃ v, (∀ w2, Later F I w2 → (execOp a.eval o).run P w2 = .ok (.value v) w2) ∧ next (a.put o.dst v) w
theorem by_q {P : Program} {o : Oper} {next : Act → World → Prop} {v : Value} (hr : ∀ w2, Later F I w2 → (execOp a.eval o).run P w2 = .ok (.value v) w2) (hp : next (a.put o.dst v) w) : Quiet F I P o a w next := ⟨v, hr, hp⟩
theorem quiet_wp (h : RI F I own σ a w) {P : Program} {o : Oper} {next : Act → World → Prop} (hq : Quiet F I P o a w next) : o.wp P a w next Q := by
  obtain ⟨v, hr, hp⟩ := hq
  exact by_value (hr w ⟨h.imm, fun b hb => (h.lk.stay b hb).1⟩) hp
theorem by_skip {P : Program} {o : Oper} {next : Act → World → Prop} (hr : (execOp a.eval o).run P w = .ok .skip w') (hp : next (a.put o.dst undef) w') : o.wp P a w next Q := by
  unfold Oper.wp; rw [hr]; exact hp

theorem take_ok (hC : F.C = C) (h : RI F I own σ a w) {d : Option Nat} {l : Loc} {v : Value} (hw : (σ.take C d l).wp C K) (hx : RV F I own σ a w (.ref l) v) : Post F K (a.put d v) w := by
  unfold ASt.take at hw
  cases hl : σ.at l with
  | none => rw [hl] at hw; exact hw.elim
  | some q =>
    rw [hl] at hw
    cases q <;> simp only [ASt.takeO] at hw <;> try exact hw.elim
    rename_i sh sz es
    obtain ⟨u, h1, h2, h3⟩ := h.inHand hl
    have hv : conc a w l = some v := hx sh sz es hl
    rw [h1] at hv
    cases hv
    exact wr_own hC h2 hw h3

theorem op_assign (hC : F.C = C) (h : RI F I own σ a w) {P : Program} {dst : Option Tmp} {x : Operand} {ty : TypeId} {pos : String} {after : Array Edge} {g : Option (Nat × Bool)}
    (hw : (opR C σ dst ty (.assign x)).wp C K) : Quiet F I P ⟨dst, .assign x, ty, pos, after, g⟩ a w (Post F K) := by
  refine by_q (v := a.eval x) (fun w2 hl2 => rfl) ?_
  have hx := rd_ok h C ty x
  simp only [opR] at hw
  generalize σ.rd C ty x = y at hx hw
  cases y with
  | ref l => exact take_ok hC h hw hx
  | _ => exact wr_rv hC h hw hx

theorem ar_bool {M : Nat → Prop} {b : Bool} {v : Value} (h : AR M I (.bool b) v) : v = .bool b := by cases h; rfl
theorem ar_int {M : Nat → Prop} {k : IntKind} {n : Int} {v : Value} (h : AR M I (.int k n) v) : v = .int k n := by cases h; rfl
theorem ar_str {M : Nat → Prop} {s : List UInt8} {v : Value} (h : AR M I (.str s) v) : v = .string ⟨s.toArray⟩ := by cases h; rfl

theorem op_pick (hC : F.C = C) (h : RI F I own σ a w) {P : Program} {dst : Option Tmp} {c x y : Operand} {ty : TypeId} {pos : String} {after : Array Edge} {g : Option (Nat × Bool)}
    (hw : (opR C σ dst ty (.pick c x y)).wp C K) : Quiet F I P ⟨dst, .pick c x y, ty, pos, after, g⟩ a w (Post F K) := by
  have hc := rd_ok h C ty c
  simp only [opR] at hw
  generalize σ.rd C ty c = q at hc hw
  cases q <;> simp only [pickR] at hw <;> try exact hw.elim
  rename_i t
  have hv := ar_bool ((rv_imm rfl).1 hc)
  obtain ⟨h1, h2⟩ := hw
  cases t with
  | true => exact by_q (v := a.eval x) (fun w2 hl2 => by simp [execOp, hv, asBool]) (wr_rv hC h (h1 rfl) (rd_ok h C ty x))
  | false => exact by_q (v := a.eval y) (fun w2 hl2 => by simp [execOp, hv, asBool]) (wr_rv hC h (h2 rfl) (rd_ok h C ty y))

theorem op_alloc (hC : F.C = C) (hok : CfgOk C) (h : RI F I own σ a w) {dst : Option Tmp} (hlk : ∀ d, dst = some d → F.lv d = false) {T ty : TypeId} {pos : String} {after : Array Edge} {g : Option (Nat × Bool)}
    (hw : (opR C σ dst ty (.alloc T)).wp C K) : Oper.wp C.P ⟨dst, .alloc T, ty, pos, after, g⟩ a w (Post F K) Q := by
  cases dst with
  | none => exact hw.elim
  | some d =>
    obtain ⟨h1, h2⟩ := chk_ok hw
    simp only [Bool.and_eq_true] at h1
    obtain ⟨i, z, e1, e2, e3, e4, e5, e6, e7, e8⟩ := (hok.fit T h1.2).info
    refine by_value (v := .pointer (some ⟨w.heap.size, 0, none⟩)) (w' := w.alloc (.cells z.cells T)) (by simp [execOp, Instr.alloc, zeroValue, typeInfo, e1, e3, newVar, newRow]) ?_
    refine ⟨I, _, _, h.newVar (by rw [hC]; exact h1.1) (by rw [e4, e5]) (fun j v hv => ?_) (fun j x v hx hv => ?_) (hlk d rfl), h2⟩
    · cases hk : (C.ti T).kind.isAgg with
      | true =>
        have hjl : j < (C.ti T).zero.length := by rw [e5, ← e4]; exact (Array.getElem?_eq_some_iff.1 hv).1
        have := e6 j _ v (List.getElem?_eq_getElem hjl) hv
        generalize (C.ti T).zero[j] = x at this
        cases x <;> simp only [zeroIs] at this <;> first | exact this.elim | (subst this; rfl) | (rw [this.2]; rfl)
      | false =>
        rw [cells_one (e8 hk).2] at hv
        obtain ⟨_, rfl⟩ := get_one hv
        exact (e8 hk).2
    · have := e6 j x v hx hv
      cases x <;> simp only [zeroIs] at this
      case int k n => subst this; exact .inl (.int k n)
      case bool b => subst this; exact .inl (.bool b)
      case str s => subst this; exact .inl (.str s)
      case nilf => subst this; exact .inl .nilf
      case own sh sz es => obtain ⟨rfl, rfl⟩ := this; exact .inr ⟨sh, sz, rfl, rfl⟩

theorem op_box (hC : F.C = C) (h : RI F I own σ a w) {P : Program} {dst : Option Tmp} (hlk : ∀ d, dst = some d → F.lv d = false) {T ty : TypeId} {x : Operand} {pos : String} {after : Array Edge} {g : Option (Nat × Bool)}
    (hw : (opR C σ dst ty (.box T x)).wp C K) : Oper.wp P ⟨dst, .box T x, ty, pos, after, g⟩ a w (Post F K) Q := by
  have hx := rd_ok h C T x
  simp only [opR] at hw
  cases hi : σ.imm (σ.rd C T x) with
  | none => rw [hi] at hw; cases dst <;> exact hw.elim
  | some q =>
    obtain ⟨y, τ⟩ := q
    rw [hi] at hw
    cases dst with
    | none => exact hw.elim
    | some d =>
      obtain ⟨h1, h2⟩ := chk_ok hw
      obtain ⟨J, j1, j2, j3⟩ := imm_ok h hx hi
      refine by_value (v := .pointer (some ⟨w.heap.size, 0, none⟩)) (w' := w.alloc (.cells (a.eval x).cells T)) (by simp [execOp, Instr.box, Go.newVar, newRow]) ?_
      exact ⟨J, _, _, j2.newVar (by rw [hC]; exact h1) j3.flen j3.one (fun j x v hx hv => .inl (j3.fcell j x v hx hv)) (hlk d rfl), h2⟩

theorem loadVar_agg {P : Program} {T : TypeId} {n : Nat} {p : Addr} (hk : (isAgg T).run P w = .ok true w) (hs : (sizeOf T).run P w = .ok n w) (cs : List Value) (hl : cs.length = n)
    (hc : ∀ (j : Nat) v, cs[j]? = some v → w.cell? (p.add j) = some v) : (Go.loadVar T p).run P w = .ok (.agg cs.toArray) w := by
  subst hl
  simp [Go.loadVar, hk, hs, run_loadCells_list w p cs hc]
theorem loadVar_one {P : Program} {T : TypeId} {p : Addr} (hk : (isAgg T).run P w = .ok false w) {v : Value} (hc : w.cell? p = some v) : (Go.loadVar T p).run P w = .ok v w := by
  simp [Go.loadVar, hk, hc]

theorem wrImm_ok (hC : F.C = C) (h : RI F I own σ a w) {d : Option Nat} {x : Option AV} {v : Value} (hw : (wrImm C σ d x).wp C K) (hx : ∀ y, x = some y → AR F.mo I y v) : Post F K (a.put d v) w := by
  cases x with
  | none => exact hw.elim
  | some y =>
    obtain ⟨h1, h2⟩ := chk_ok hw
    have := hx y rfl
    exact wr_rv hC h h2 ((rv_imm h1).2 this)

theorem markFrom_get (cs : List AV) (off n j : Nat) (h : off + n ≤ cs.length) : (markFrom cs off n)[j]? = if off ≤ j ∧ j < off + n then (cs[j]?).map AV.mark else cs[j]? := by
  unfold markFrom
  have hl : (cs.take off).length = off := by simp; omega
  have hl2 : (((cs.drop off).take n).map AV.mark).length = n := by simp; omega
  by_cases h1 : j < off
  · rw [if_neg (by omega), List.append_assoc, List.getElem?_append_left (by omega), List.getElem?_take_of_lt h1]
  · by_cases h2 : j < off + n
    · rw [if_pos ⟨by omega, h2⟩, List.append_assoc, List.getElem?_append_right (by omega), hl, List.getElem?_append_left (by omega), List.getElem?_map, List.getElem?_take_of_lt (by omega), List.getElem?_drop]
      congr 2; omega
    · rw [if_neg (by omega), List.getElem?_append_right (by simp [hl]; omega), List.getElem?_drop]
      congr 1
      simp [hl]; omega

/-- The cells of a variable are marked one by one. -/
theorem markCells (h : RI F I own σ a w) {k : Nat} {cs : List AV} (hk : look σ.vars k = some cs) (off : Nat) : ∀ n, off + n ≤ cs.length →
    ∃ J, Imm.le I J ∧ RI F J own { σ with vars := ins k (markFrom cs off n) σ.vars } a w
  | 0, h0 => by
    refine ⟨I, Imm.leRefl I, h.weaken (fun l x hx => ⟨x, ?_, .inl rfl⟩) (fun k' cs' hk' => ?_)⟩
    · cases l with
      | cell k' j =>
        simp only [ASt.at, look_ins] at hx ⊢
        by_cases e : k' = k
        · subst e
          simp only [if_true, cellAt, markFrom_get cs off 0 j h0, hk] at hx ⊢
          rw [if_neg (by omega)] at hx; exact hx
        · simp only [e, if_false] at hx; exact hx
      | _ => exact hx
    · rw [look_ins] at hk'
      by_cases e : k' = k
      · subst e
        simp only [if_true, Option.some.injEq] at hk'
        subst hk'
        exact ⟨cs, hk, by simp [markFrom]⟩
      · simp only [e, if_false] at hk'; exact ⟨cs', hk', rfl⟩
  | n + 1, hn => by
    obtain ⟨J, j1, j2⟩ := markCells h hk off n (by omega)
    have hlen : ∀ n, off + n ≤ cs.length → (markFrom cs off n).length = cs.length := fun n hn => by simp [markFrom]; omega
    have hkn : look (ASt.vars { σ with vars := ins k (markFrom cs off n) σ.vars }) k = some (markFrom cs off n) := by simp [look_ins]
    have hcj : (markFrom cs off n)[off + n]? = cs[off + n]? := by rw [markFrom_get cs off n _ (by omega), if_neg (by omega)]
    have same : ∀ {J : Imm} {τ : ASt}, τ.st = σ.st → RI F J own τ a w → (∀ l x, ASt.at { σ with vars := ins k (markFrom cs off (n + 1)) σ.vars } l = some x → τ.at l = some x) →
        (∀ k' cs', look (ins k (markFrom cs off (n + 1)) σ.vars) k' = some cs' → ∃ cs0, look τ.vars k' = some cs0 ∧ cs0.length = cs'.length) →
        RI F J own { σ with vars := ins k (markFrom cs off (n + 1)) σ.vars } a w := fun hst hJ h1 h2 => hJ.weaken (fun l x hx => ⟨x, h1 l x hx, .inl rfl⟩) h2 (by rw [hst]; exact List.Sublist.refl _)
    have hlt : off + n < cs.length := by omega
    have hget := List.getElem?_eq_getElem hlt
    by_cases ho : ∃ sh sz es, cs[off + n]? = some (.own sh sz es)
    · obtain ⟨sh, sz, es, ho⟩ := ho
      have hl : ASt.at { σ with vars := ins k (markFrom cs off n) σ.vars } (.cell k (off + n)) = some (.own sh sz es) := by
        simp only [ASt.at, hkn, cellAt, hcj]; exact ho
      obtain ⟨J2, v, _, k2, k3, _⟩ := j2.mark rfl hl
      have hturn : ∀ l, (ASt.turn { σ with vars := ins k (markFrom cs off n) σ.vars } (.cell k (off + n)) (.own true sz es)).at l = if l = .cell k (off + n) then some (.own true sz es) else ASt.at { σ with vars := ins k (markFrom cs off n) σ.vars } l :=
        at_turn rfl hl
      refine ⟨J2, j1.trans k2, same (by exact turn_st _ _) k3 (fun l x hx => ?_) (fun k' cs' hk' => ?_)⟩
      · rw [hturn l]
        cases l with
        | cell k' j =>
          simp only [ASt.at, look_ins] at hx ⊢
          by_cases e : k' = k
          · subst e
            simp only [if_true, cellAt, markFrom_get cs off (n + 1) j hn, markFrom_get cs off n j (by omega)] at hx ⊢
            by_cases e2 : j = off + n
            · subst e2
              rw [if_pos (by omega), ho] at hx
              rw [if_pos rfl]
              exact hx
            · rw [if_neg (fun e3 => e2 (by cases e3; rfl))]
              by_cases e3 : off ≤ j ∧ j < off + n
              · rw [if_pos e3]; rw [if_pos (by omega)] at hx; exact hx
              · rw [if_neg e3]; rw [if_neg (by omega)] at hx; exact hx
          · simp only [e, if_false] at hx ⊢
            rw [if_neg (fun e3 => e (by cases e3; rfl))]; exact hx
        | tmp t => rw [if_neg (fun e => by cases e)]; exact hx
        | comp t j => rw [if_neg (fun e => by cases e)]; exact hx
        | box k => cases hx
      · simp only [ASt.turn, ASt.setCell, hkn, ASt.setCellO, look_ins] at hk' ⊢
        by_cases e : k' = k
        · subst e
          simp only [if_true, Option.some.injEq] at hk' ⊢
          subst hk'
          exact ⟨_, rfl, by rw [List.length_set, hlen n (by omega), hlen (n + 1) hn]⟩
        · simp only [e, if_false] at hk' ⊢; exact ⟨cs', hk', rfl⟩
    · have hmk : ∀ x, cs[off + n]? = some x → x.mark = x := by
        intro x hx
        cases x <;> first | rfl | exact absurd ⟨_, _, _, hx⟩ ho
      refine ⟨J, j1, same (by rfl) j2 (fun l x hx => ?_) (fun k' cs' hk' => ?_)⟩
      · cases l with
        | cell k' j =>
          simp only [ASt.at, look_ins] at hx ⊢
          by_cases e : k' = k
          · subst e
            simp only [if_true, cellAt, markFrom_get cs off (n + 1) j hn, markFrom_get cs off n j (by omega)] at hx ⊢
            by_cases e2 : j = off + n
            · subst e2
              rw [if_pos (by omega), hget] at hx
              rw [if_neg (by omega), hget]
              simp only [Option.map_some, hmk _ hget] at hx
              exact hx
            · by_cases e3 : off ≤ j ∧ j < off + n
              · rw [if_pos e3]; rw [if_pos (by omega)] at hx; exact hx
              · rw [if_neg e3]; rw [if_neg (by omega)] at hx; exact hx
          · simp only [e, if_false] at hx ⊢; exact hx
        | _ => exact hx
      · simp only [look_ins] at hk' ⊢
        by_cases e : k' = k
        · subst e
          simp only [if_true, Option.some.injEq] at hk' ⊢
          subst hk'
          exact ⟨_, rfl, by rw [hlen n (by omega), hlen (n + 1) hn]⟩
        · simp only [e, if_false] at hk' ⊢; exact ⟨cs', hk', rfl⟩

theorem frz_ar {k j : Nat} (h : RI F I own σ a w) {x : AV} {v : Value} (hr : SRep F I own σ a w (.cell k j) x v) (hx : x.mark = x) (hf : x.frz.isImm = true) : AR F.mo I x.frz v := by
  cases x with
  | own sh sz es =>
    simp only [AV.mark, AV.own.injEq, and_true] at hx
    subst hx
    rcases hr with ⟨rfl, rfl⟩ | ⟨g, cap, rfl, hg, hrow⟩
    · exact .slnil true sz none 0
    · exact hrow.toSl (h.mko _ (h.mine g _ hg).1)
  | bot => cases hf
  | undef => cases hf
  | tup => cases hf
  | ref => cases hf
  | var => cases hf
  | elt => cases hf
  | _ => exact hr

end
end Go.Proofs.Ytmngjlgeojbghaa.VA
end
section
namespace Go.Proofs.Ytmngjlgeojbghaa.VA
section
variable {F : Fx} {I : Imm} {own : Nat → Option Loc} {σ : ASt} {a : Act} {w w' : World} {C : Cfg} {K : ASt → Prop} {Q : Exit → Act → World → Prop}

theorem run_loadAt {P : Program} {T : TypeId} {p : Addr} {v u : Value} (hv : u = .pointer (some p)) (h : (Go.loadVar T p).run P w = .ok v w) : (Instr.loadAt T u).run P w = .ok v w := by
  subst hv; simp [Instr.loadAt, Instr.sureAddr, h]

/-- Where an element's address leads. -/
theorem elt_ok (h : RI F I own σ a w) {x : AV} {i off : Nat} {u : Value} {sz : Nat} {es : List AV} (hu : RV F I own σ a w (.elt x i off) u) (hc : σ.cont x = some (sz, es)) (hx : ∀ sh sz es, x ≠ .own sh sz es) :
    (∃ b o, u = .pointer (some ⟨b, o + i * sz + off, none⟩) ∧ Lies F.mo I sz es fun q => w.cell? ⟨b, o + q, none⟩) ∨ es = [] := by
  cases x with
  | own sh sz es => exact absurd rfl (hx _ _ _)
  | sl fr sz' es' =>
    simp only [ASt.cont, AV.elemsOf, Option.some.injEq, Prod.mk.injEq] at hc
    obtain ⟨rfl, rfl⟩ := hc
    obtain ⟨b, o, n, cap, h1, h2⟩ := hu
    left
    refine ⟨b, o, h2, ?_⟩
    obtain ⟨base, n', cap', e1, e2, e3, e4⟩ := ar_holds h.imm h1
    cases e1
    cases es' with
    | nil => intro i e he; simp at he
    | cons e es' =>
      obtain ⟨b', o', e5, e6⟩ := e4 0 e rfl
      cases e5
      exact e6
  | ref l =>
    simp only [ASt.cont] at hc
    cases hl : σ.at l with
    | none => rw [hl] at hc; cases hc
    | some q =>
      rw [hl] at hc
      cases q <;> simp only [AV.elemsO] at hc <;> try cases hc
      rename_i sh
      obtain ⟨g, n, cap, h1, h2⟩ := hu sh sz es hl
      obtain ⟨v, hv, hr⟩ := h.slots l _ hl
      rw [h1] at hv
      cases hv
      rcases hr with ⟨e, _⟩ | ⟨g', cap', e, _, hrow⟩
      · cases e
      · cases e
        left
        refine ⟨g, 0, by rw [Nat.zero_add]; exact h2, ?_⟩
        have := hrow.lies
        simpa only [Nat.zero_add] using this
  | _ => simp [ASt.cont, AV.elemsOf] at hc

theorem op_load (hC : F.C = C) (hok : CfgOk C) (h : RI F I own σ a w) {dst : Option Tmp} {T ty : TypeId} {x : Operand} {pos : String} {after : Array Edge} {g : Option (Nat × Bool)}
    (hw : (opR C σ dst ty (.load T x)).wp C K) : Oper.wp C.P ⟨dst, .load T x, ty, pos, after, g⟩ a w (Post F K) Q := by
  have hx := rd_ok h C 0 x
  simp only [opR] at hw
  generalize σ.rd C 0 x = y at hx hw
  cases y <;> simp only [loadR] at hw <;> try exact hw.elim
  case var k off =>
    have hchk := chk_ok hw
    clear hw
    obtain ⟨hkn, hw⟩ := hchk
    have hfit := hok.fit T hkn
    cases hk : look σ.vars k with
    | none => rw [hk] at hw; exact hw.elim
    | some cs =>
      rw [hk] at hw
      obtain ⟨b, hb, hv⟩ := hx cs hk
      obtain ⟨b', hb1, hb2, hb3, hb4⟩ := h.boxes k cs hk
      rw [hb] at hb1
      obtain rfl : b = b' := by cases hb1; rfl
      have hconc : ∀ j, conc a w (.cell k j) = w.cell? ⟨b, j, none⟩ := fun j => by simp only [conc, hb, cellOf]
      simp only [VA.loadVar] at hw
      cases hag : (C.ti T).kind.isAgg with
      | true =>
        rw [if_pos hag] at hw
        have hchk := chk_ok hw
        clear hw
        obtain ⟨h1, hw⟩ := hchk
        simp only [Bool.and_eq_true, decide_eq_true_eq] at h1
        obtain ⟨h1, h2⟩ := h1
        generalize hn : (C.ti T).size = n at *
        have hcell : ∀ j, j < n → ∃ v, w.cell? ⟨b, off + j, none⟩ = some v ∧ v.oneCell' = true := fun j hj => by
          obtain ⟨v, v1, v2, _⟩ := hb4 (off + j) (by omega)
          exact ⟨v, v1, v2⟩
        obtain ⟨vals, hvl, hvals⟩ : ∃ vals : List Value, vals.length = n ∧ ∀ j, j < n → vals[j]? = w.cell? ⟨b, off + j, none⟩ := by
          refine ⟨(List.range n).map fun j => (w.cell? ⟨b, off + j, none⟩).getD undef, by simp, fun j hj => ?_⟩
          obtain ⟨v, v1, _⟩ := hcell j hj
          simp [hj, v1]
        have hrun : (Go.loadVar T ⟨b, off, none⟩).run C.P w = .ok (.agg vals.toArray) w := by
          refine loadVar_agg (by rw [fit_isAgg hfit w, hag]) (by rw [fit_sizeOf hfit w, hn]) vals hvl fun j v hj => ?_
          have hjl := (List.getElem?_eq_some_iff.1 hj).1
          rw [Addr.add_lit, ← hvals j (by omega)]; exact hj
        refine by_value (w' := w) (v := .agg vals.toArray) (by simp [execOp, run_loadAt hv hrun]) ?_
        obtain ⟨J, j1, j2⟩ := markCells h hk off n h1
        refine wr_rv hC j2 hw (AR.agg _ _ (by simp [hvl]; omega) (fun j v hj => ?_) fun j c v hj hv' => ?_)
        · simp only [List.getElem?_toArray] at hj
          have hjl := (List.getElem?_eq_some_iff.1 hj).1
          obtain ⟨v', v1, v2⟩ := hcell j (by omega)
          rw [hvals j (by omega), v1] at hj
          cases hj
          exact v2
        · simp only [List.getElem?_toArray] at hv'
          have hjl := (List.getElem?_eq_some_iff.1 hv').1
          have hjn : j < n := by omega
          have hcs : cs[off + j]? = some cs[off + j] := List.getElem?_eq_getElem (by omega)
          rw [List.getElem?_map, List.getElem?_take_of_lt hjn, List.getElem?_drop, hcs] at hj
          simp only [Option.map_some, Option.some.injEq] at hj
          subst hj
          have hat : ASt.at { σ with vars := ins k (markFrom cs off n) σ.vars } (.cell k (off + j)) = some cs[off + j].mark := by
            simp only [ASt.at, look_ins, if_true, cellAt, markFrom_get cs off n (off + j) h1]
            rw [if_pos (by omega), hcs]; rfl
          obtain ⟨v2, e1, e2⟩ := j2.slots _ _ hat
          rw [hconc, ← hvals j hjn, hv'] at e1
          cases e1
          have him : cs[off + j].frz.isImm = true := by
            have := List.all_eq_true.1 h2 cs[off + j] (by
              refine List.mem_of_getElem? (i := j) ?_
              rw [List.getElem?_take_of_lt hjn, List.getElem?_drop, hcs])
            exact this
          have hmf : cs[off + j].mark.frz = cs[off + j].frz := by cases cs[off + j] <;> rfl
          have hmm : cs[off + j].mark.mark = cs[off + j].mark := by cases cs[off + j] <;> rfl
          have := frz_ar j2 e2 hmm (by rw [hmf]; exact him)
          rw [hmf] at this
          exact this
      | false =>
        rw [if_neg (by rw [hag]; simp)] at hw
        cases hcs : cs[off]? with
        | none => rw [hcs] at hw; exact hw.elim
        | some y =>
          rw [hcs] at hw
          have hat : σ.at (.cell k off) = some y := by simp only [ASt.at, hk, cellAt]; exact hcs
          obtain ⟨v, e1, e2⟩ := h.slots _ _ hat
          rw [hconc] at e1
          have hrun : (Go.loadVar T ⟨b, off, none⟩).run C.P w = .ok v w := loadVar_one (by rw [fit_isAgg hfit w, hag]) e1
          refine by_value (w' := w) (v := v) (by simp [execOp, run_loadAt hv hrun]) ?_
          have him : y.isImm = true → (σ.wr C dst y).wp C K → Post F K (a.put dst v) w := fun hi hw => wr_rv hC h hw ((rv_imm hi).2 ((srep_imm hi).1 e2))
          have imm : (R.chk y.isImm (σ.wr C dst y)).wp C K → Post F K (a.put dst v) w := fun hw => by
            obtain ⟨h1, h2⟩ := chk_ok hw
            exact him h1 h2
          cases y with
          | own sh sz es =>
            refine wr_rv hC h hw ?_
            intro sh' sz' es' _
            rw [hconc]; exact e1
          | _ => exact imm hw
  case elt y i off =>
    have hchk := chk_ok hw
    clear hw
    obtain ⟨hkn, hw⟩ := hchk
    have hfit := hok.fit T hkn
    cases hc : σ.cont y with
    | none => rw [hc] at hw; exact hw.elim
    | some q =>
      obtain ⟨sz, es⟩ := q
      rw [hc] at hw
      simp only [loadElt] at hw
      have hyo : ∀ sh sz es, y ≠ .own sh sz es := by
        rintro sh sz es rfl
        exact hx.elim
      cases he : es[i]? with
      | none => rw [he] at hw; exact hw.elim
      | some e =>
        rw [he] at hw
        rcases elt_ok h hx hc hyo with ⟨b, o, hv, hlies⟩ | rfl
        case inr => simp at he
        obtain ⟨u, hu1, hu2, hu3⟩ := hlies i e he
        simp only [loadElem] at hw
        cases hag : (C.ti T).kind.isAgg with
        | true =>
          rw [if_pos hag] at hw
          by_cases hwh : (decide (off = 0) && decide ((C.ti T).size = sz)) = true
          · rw [if_pos hwh] at hw
            simp only [Bool.and_eq_true, decide_eq_true_eq] at hwh
            obtain ⟨rfl, hs⟩ := hwh
            have hchk := chk_ok hw
            clear hw
            obtain ⟨hagg, hw⟩ := hchk
            obtain ⟨cs, rfl⟩ : ∃ cs, e = .agg cs := by cases e <;> first | exact ⟨_, rfl⟩ | cases hagg
            cases hu1 with
            | agg _ vs hl h1 hh =>
              have hrun : (Go.loadVar T ⟨b, o + i * sz, none⟩).run C.P w = .ok (.agg vs.toList.toArray) w := by
                refine loadVar_agg (by rw [fit_isAgg hfit w, hag]) (by rw [fit_sizeOf hfit w, hs]) vs.toList (by rw [Array.length_toList]; exact hu2) fun j v hj => ?_
                rw [Addr.add_lit, Nat.add_assoc]
                exact hu3 j v (by simpa [Value.cells] using hj)
              refine by_value (w' := w) (v := .agg vs) (by simp [execOp, run_loadAt hv hrun]) ?_
              exact wrImm_ok hC h hw fun y hy => by cases hy; exact .agg _ vs hl h1 hh
          · rw [if_neg hwh] at hw
            cases e <;> simp only [aggPart] at hw <;> try exact hw.elim
            rename_i cs
            by_cases hle : off + (C.ti T).size ≤ cs.length
            case neg => rw [if_neg hle] at hw; exact hw.elim
            rw [if_pos hle] at hw
            generalize hn : (C.ti T).size = n at *
            cases hu1 with
            | agg _ vs hl h1 hh =>
              have hrun : (Go.loadVar T ⟨b, o + i * sz + off, none⟩).run C.P w = .ok (.agg ((vs.toList.drop off).take n).toArray) w := by
                refine loadVar_agg (by rw [fit_isAgg hfit w, hag]) (by rw [fit_sizeOf hfit w, hn]) ((vs.toList.drop off).take n) (by simp; omega) fun j v hj => ?_
                have hjl : j < n := by
                  have := (List.getElem?_eq_some_iff.1 hj).1
                  simp at this; omega
                rw [List.getElem?_take_of_lt hjl, List.getElem?_drop] at hj
                rw [Addr.add_lit, show o + i * sz + off + j = o + (i * sz + (off + j)) by omega]
                exact hu3 (off + j) v (by simpa [Value.cells] using hj)
              refine by_value (w' := w) (v := .agg ((vs.toList.drop off).take n).toArray) (by simp [execOp, run_loadAt hv hrun]) ?_
              refine wrImm_ok hC h hw fun y hy => ?_
              cases hy
              refine .agg _ _ (by simp; omega) (fun j v hj => ?_) fun j c v hj hv' => ?_
              · simp only [List.getElem?_toArray] at hj
                have hjl : j < n := by
                  have := (List.getElem?_eq_some_iff.1 hj).1
                  simp at this; omega
                rw [List.getElem?_take_of_lt hjl, List.getElem?_drop] at hj
                exact h1 (off + j) v (by simpa using hj)
              · simp only [List.getElem?_toArray] at hv'
                have hjl : j < n := by
                  have := (List.getElem?_eq_some_iff.1 hv').1
                  simp at this; omega
                rw [List.getElem?_take_of_lt hjl, List.getElem?_drop] at hj hv'
                exact hh (off + j) c v hj (by simpa using hv')
        | false =>
          rw [if_neg (by rw [hag]; simp)] at hw
          cases hf : e.flat[off]? with
          | none => rw [hf] at hw; exact hw.elim
          | some y =>
            rw [hf] at hw
            have hol : off < u.cells.size := by
              rw [← hu1.flen]; exact (List.getElem?_eq_some_iff.1 hf).1
            have hcu := Array.getElem?_eq_getElem hol
            have hcell := hu3 off _ hcu
            have hrun : (Go.loadVar T ⟨b, o + i * sz + off, none⟩).run C.P w = .ok u.cells[off] w := loadVar_one (by rw [fit_isAgg hfit w, hag]) (by rw [Nat.add_assoc]; exact hcell)
            refine by_value (w' := w) (v := u.cells[off]) (by simp [execOp, run_loadAt hv hrun]) ?_
            exact wrImm_ok hC h hw fun y' hy => by cases hy; exact hu1.fcell off _ _ hf hcu

/-- A value is laid into cells. -/
theorem run_storeAt {P : Program} {T : TypeId} {b o : Nat} {u v : Value} (hu : u = .pointer (some ⟨b, o, none⟩)) {n : Nat} (hs : (sizeOf T).run P w = .ok n w) (hn : v.cells.size = n)
    (hc : ∀ j, j < n → ∃ x, w.cell? ⟨b, o + j, none⟩ = some x ∧ w.frozen? ⟨b, o + j, none⟩ = false) (h1 : ∀ x ∈ v.cells.toList, x.oneCell' = true) :
    (Instr.storeAt T u v).run P w = .ok () (w.setCells b o v.cells.toList) ∧ Wr w (w.setCells b o v.cells.toList) b o v.cells.toList := by
  subst hu
  have hst := run_storeCells_cells (P := P) b o v.cells.toList 0 w
    (fun j hj => by obtain ⟨x, hx, _⟩ := hc j (by simpa [hn] using hj); rw [Nat.add_zero, hx]; rfl)
    (fun j hj => by obtain ⟨x, _, hx⟩ := hc j (by simpa [hn] using hj); rw [Nat.add_zero]; exact hx) h1
  refine ⟨by simp [Instr.storeAt, Instr.sureAddr, Go.storeVar, hs, hn, hst], wr_setCells w b o _ fun j hj => ?_⟩
  obtain ⟨x, hx, _⟩ := hc j (by simpa [hn] using hj)
  rw [hx]; rfl

theorem imm_at {x y : AV} {τ : ASt} (he : σ.imm x = some (y, τ)) {l : Loc} {sz : Nat} {es : List AV} (hl : τ.at l = some (.own false sz es)) : σ.at l = some (.own false sz es) := by
  cases x with
  | own sh sz' es' =>
    cases es' with
    | nil => simp only [ASt.imm, Option.some.injEq, Prod.mk.injEq] at he; obtain ⟨rfl, rfl⟩ := he; exact hl
    | cons => simp [ASt.imm, AV.isImm] at he
  | ref l' =>
    simp only [ASt.imm] at he
    cases hl' : σ.at l' with
    | none => rw [hl'] at he; cases he
    | some q =>
      rw [hl'] at he
      cases q <;> simp only [ASt.immRef] at he <;> try cases he
      by_cases hp : l'.plain = true
      · rw [if_pos hp] at he
        simp only [Option.some.injEq, Prod.mk.injEq] at he
        obtain ⟨rfl, rfl⟩ := he
        rw [at_turn hp hl'] at hl
        by_cases e : l = l'
        · rw [if_pos e] at hl; cases hl
        · rw [if_neg e] at hl; exact hl
      · rw [if_neg hp] at he; cases he
  | _ => simp only [ASt.imm] at he <;> (try (split at he)) <;> first | cases he; exact hl | cases he

theorem drop_vars {l : Loc} {k : Nat} {cs : List AV} (hk : look σ.vars k = some cs) : ∃ cs', look (σ.drop l).vars k = some cs' ∧ cs'.length = cs.length := by
  cases l with
  | tmp t => exact ⟨cs, hk, rfl⟩
  | cell k' j =>
    simp only [ASt.drop, ASt.setCell]
    cases hk' : look σ.vars k' with
    | none => exact ⟨cs, hk, rfl⟩
    | some cs0 =>
      simp only [ASt.setCellO, look_ins]
      by_cases e : k = k'
      · subst e
        rw [hk] at hk'
        cases hk'
        exact ⟨cs.set j .bot, by simp, by simp⟩
      · simp only [e, if_false]; exact ⟨cs, hk, rfl⟩
  | comp t j =>
    simp only [ASt.drop]
    cases ht : look σ.tmps t with
    | none => exact ⟨cs, hk, rfl⟩
    | some y => cases y <;> exact ⟨cs, hk, rfl⟩
  | box k => exact ⟨cs, hk, rfl⟩

/-- One element of a row is written anew. -/
theorem Lies.set {M : Nat → Prop} {sz : Nat} {es : List AV} {g : Nat} (hl : Lies M I sz es fun q => w.cell? ⟨g, q, none⟩) {i off : Nat} {vals : List Value} (hW : Wr w w' g (i * sz + off) vals) (hoff : off + vals.length ≤ sz)
    {e' : AV} {u u' : Value} (hu : ∀ (j : Nat) c, u.cells[j]? = some c → w.cell? ⟨g, i * sz + j, none⟩ = some c) (hu' : AR M I e' u') (hs : u'.cells.size = sz)
    (hc : ∀ (j : Nat) c, u'.cells[j]? = some c → if off ≤ j ∧ j < off + vals.length then vals[j - off]? = some c else u.cells[j]? = some c) :
    Lies M I sz (es.set i e') fun q => w'.cell? ⟨g, q, none⟩ := by
  intro i2 e he
  rw [List.getElem?_set] at he
  by_cases hi : i = i2
  · subst hi
    rw [if_pos rfl] at he
    split at he
    · cases he
      refine ⟨u', hu', hs, fun j c hj => ?_⟩
      have := hc j c hj
      by_cases h1 : off ≤ j ∧ j < off + vals.length
      · rw [if_pos h1] at this
        have h2 := hW.cin (j - off) (by omega)
        rw [show i * sz + off + (j - off) = i * sz + j by omega] at h2
        simp only
        rw [h2]; exact this
      · rw [if_neg h1] at this
        simp only
        rw [hW.cout _ (by omega)]
        exact hu j c this
    · cases he
  · rw [if_neg hi] at he
    obtain ⟨v, v1, v2, v3⟩ := hl i2 e he
    refine ⟨v, v1, v2, fun j c hj => ?_⟩
    have hjs : j < sz := by rw [← v2]; exact (Array.getElem?_eq_some_iff.1 hj).1
    simp only
    rw [hW.cout]
    · exact v3 j c hj
    · rcases Nat.lt_or_gt_of_ne hi with h1 | h1
      · have : (i + 1) * sz ≤ i2 * sz := Nat.mul_le_mul_right _ h1
        rw [Nat.add_mul] at this
        omega
      · have : (i2 + 1) * sz ≤ i * sz := Nat.mul_le_mul_right _ h1
        rw [Nat.add_mul] at this
        omega

theorem look_redir (t : Nat) (l : Loc) : ∀ (r : List (Nat × AV)) (j : Nat), look (VA.redir t l r) j = (look r j).map fun y => if Nat.beq j t = true then .ref l else AV.redir t l y
  | [], j => rfl
  | (i, y) :: r, j => by
    unfold VA.redir look
    by_cases e : j = i
    · rw [if_pos e, if_pos e, e]; rfl
    · rw [if_neg e, if_neg e, look_redir t l r j]
theorem redir_own {t : Nat} {l : Loc} {y : AV} {sh sz es} : AV.redir t l y = .own sh sz es ↔ y = .own sh sz es := by
  unfold AV.redir
  split
  · split <;> simp
  · split <;> simp
  · exact Iff.rfl
theorem redir_tup {t : Nat} {l : Loc} {y : AV} {vs} : AV.redir t l y = .tup vs ↔ y = .tup vs := by
  unfold AV.redir
  split
  · split <;> simp
  · split <;> simp
  · exact Iff.rfl
/-- The temporaries are told otherwise. -/
theorem RI.tmps (h : RI F I own σ a w) {T2 : List (Nat × AV)} (hown : ∀ t sh sz es, look T2 t = some (.own sh sz es) ↔ look σ.tmps t = some (.own sh sz es)) (htup : ∀ t vs, look T2 t = some (.tup vs) ↔ look σ.tmps t = some (.tup vs))
    (hs : ∀ t x, look T2 t = some x → look σ.tmps t = some x ∨ ∃ v, a.tmps[t]? = some v ∧ SRep F I own { σ with tmps := T2 } a w (.tmp t) x v) : RI F I own { σ with tmps := T2 } a w := by
  have hat : ∀ l sh sz es, ASt.at { σ with tmps := T2 } l = some (.own sh sz es) ↔ σ.at l = some (.own sh sz es) := by
    intro l sh sz es
    cases l with
    | tmp t => exact hown t sh sz es
    | cell k j => exact Iff.rfl
    | comp t j =>
      show AV.compAt j (look T2 t) = _ ↔ AV.compAt j (look σ.tmps t) = _
      constructor
      · intro e
        cases h2 : look T2 t with
        | none => rw [h2] at e; cases e
        | some y =>
          rw [h2] at e
          cases y <;> try (cases e; done)
          rw [(htup t _).1 h2]
          exact e
      · intro e
        cases h2 : look σ.tmps t with
        | none => rw [h2] at e; cases e
        | some y =>
          rw [h2] at e
          cases y <;> try (cases e; done)
          rw [(htup t _).2 h2]
          exact e
    | box k => exact Iff.rfl
  have keep : ∀ {l x v}, SRep F I own σ a w l x v → SRep F I own { σ with tmps := T2 } a w l x v := fun hx =>
    hx.keep (Imm.leRefl I) (fun g sh sz es cap _ h1 h2 => ⟨h1, h2⟩) (fun l' _ sh sz es he => ⟨⟨sh, es, (hat l' sh sz es).1 he⟩, rfl⟩) (fun k off _ cs hk => ⟨⟨cs, hk⟩, rfl⟩)
  refine { h with slots := fun l x hx => ?_, quiet := fun l x hx hl => ?_, lk := ?_ }
  · cases l with
    | tmp t =>
      rcases hs t x hx with e | ⟨v, e1, e2⟩
      · obtain ⟨v, e1, e2⟩ := h.slots (.tmp t) x e
        exact ⟨v, e1, keep e2⟩
      · exact ⟨v, e1, e2⟩
    | cell k j =>
      obtain ⟨v, e1, e2⟩ := h.slots (.cell k j) x hx
      exact ⟨v, e1, keep e2⟩
    | comp t j =>
      have hx' : σ.at (.comp t j) = some x := by
        have hx : AV.compAt j (look T2 t) = some x := hx
        show AV.compAt j (look σ.tmps t) = some x
        cases h2 : look T2 t with
        | none => rw [h2] at hx; cases hx
        | some y =>
          rw [h2] at hx
          cases y <;> try (cases hx; done)
          rw [(htup t _).1 h2]
          exact hx
      obtain ⟨v, e1, e2⟩ := h.slots (.comp t j) x hx'
      exact ⟨v, e1, keep e2⟩
    | box k => cases hx
  · cases l with
    | tmp t => exact absurd rfl (hl t)
    | cell k j => exact h.quiet (.cell k j) x hx hl
    | comp t j =>
      have hx' : σ.at (.comp t j) = some x := by
        have hx : AV.compAt j (look T2 t) = some x := hx
        show AV.compAt j (look σ.tmps t) = some x
        cases h2 : look T2 t with
        | none => rw [h2] at hx; cases hx
        | some y =>
          rw [h2] at hx
          cases y <;> try (cases hx; done)
          rw [(htup t _).1 h2]
          exact hx
      exact h.quiet (.comp t j) x hx' hl
    | box k => cases hx
  · exact h.lk.keep (fun _ _ _ e => e) (fun _ _ _ _ => rfl) fun k cs e => ⟨⟨cs, e⟩, rfl⟩
/-- What a temporary held lies in a cell now: it leans on it. -/
theorem RI.redir {own' : Nat → Option Loc} {w2 : World} (h : RI F I own σ a w) {t k off : Nat} {sh : Bool} {sz : Nat} {es : List AV} {v : Value} (hl : look σ.tmps t = some (.own sh sz es)) (hv : a.tmps[t]? = some v)
    (h2 : RI F I own' (ASt.setCell { σ.put t .bot with tmps := VA.strike (AV.leans (.cell k off)) (σ.put t .bot).tmps } k off (.own sh sz es)) a w2) (hc : conc a w2 (.cell k off) = some v) (hk : ∃ cs, look σ.vars k = some cs) :
    RI F I own' (ASt.setCell { σ with tmps := VA.redir t (.cell k off) (VA.strike (AV.leans (.cell k off)) σ.tmps) } k off (.own sh sz es)) a w2 := by
  obtain ⟨cs, hk⟩ := hk
  have e1 : ASt.setCell { σ.put t .bot with tmps := VA.strike (AV.leans (.cell k off)) (σ.put t .bot).tmps } k off (.own sh sz es) = { σ with tmps := VA.strike (AV.leans (.cell k off)) (σ.put t .bot).tmps, vars := ins k (cs.set off (.own sh sz es)) σ.vars } := by
    unfold ASt.setCell
    show ASt.setCellO _ k off _ (look σ.vars k) = _
    rw [hk]; rfl
  have e2 : ASt.setCell { σ with tmps := VA.redir t (.cell k off) (VA.strike (AV.leans (.cell k off)) σ.tmps) } k off (.own sh sz es) = { σ with tmps := VA.redir t (.cell k off) (VA.strike (AV.leans (.cell k off)) σ.tmps), vars := ins k (cs.set off (.own sh sz es)) σ.vars } := by
    unfold ASt.setCell
    show ASt.setCellO _ k off _ (look σ.vars k) = _
    rw [hk]; rfl
  rw [e2]
  rw [e1] at h2
  have lk1 : ∀ s, look (VA.strike (AV.leans (.cell k off)) (σ.put t .bot).tmps) s = if s = t then some .bot else look (VA.strike (AV.leans (.cell k off)) σ.tmps) s := by
    intro s
    rw [look_strike, look_strike, look_put]
    split
    · simp [AV.leans]
    · rfl
  have lk2 : ∀ s, s ≠ t → look (VA.redir t (.cell k off) (VA.strike (AV.leans (.cell k off)) σ.tmps)) s = (look (VA.strike (AV.leans (.cell k off)) σ.tmps) s).map (AV.redir t (.cell k off)) := by
    intro s hs
    rw [look_redir]
    congr 1
    funext y
    rw [if_neg (by simpa using hs)]
  have lk3 : look (VA.redir t (.cell k off) (VA.strike (AV.leans (.cell k off)) σ.tmps)) t = some (.ref (.cell k off)) := by
    rw [look_redir, look_strike, hl]
    simp
  have hcell : ∀ sh' sz' es', ASt.at { σ with tmps := VA.redir t (.cell k off) (VA.strike (AV.leans (.cell k off)) σ.tmps), vars := ins k (cs.set off (.own sh sz es)) σ.vars } (.cell k off) = some (.own sh' sz' es') → sz' = sz := by
    intro sh' sz' es' e
    have e : cellAt off (look (ins k (cs.set off (.own sh sz es)) σ.vars) k) = some (.own sh' sz' es') := e
    rw [look_ins, if_pos rfl] at e
    simp only [cellAt] at e
    have hlt := (List.getElem?_eq_some_iff.1 e).1
    rw [List.length_set] at hlt
    rw [List.getElem?_set_self hlt] at e
    cases e; rfl
  refine h2.tmps (fun s sh' sz' es' => ?_) (fun s vs => ?_) (fun s x hx => ?_)
  · by_cases e : s = t
    · subst e
      rw [lk3, lk1, if_pos rfl]
      constructor <;> intro e <;> cases e
    · rw [lk2 s e, lk1, if_neg e, Option.map_eq_some_iff]
      constructor
      · rintro ⟨y, h3, h4⟩
        rw [h3, redir_own.1 h4]
      · intro h3
        exact ⟨_, h3, redir_own.2 rfl⟩
  · by_cases e : s = t
    · subst e
      rw [lk3, lk1, if_pos rfl]
      constructor <;> intro e <;> cases e
    · rw [lk2 s e, lk1, if_neg e, Option.map_eq_some_iff]
      constructor
      · rintro ⟨y, h3, h4⟩
        rw [h3, redir_tup.1 h4]
      · intro h3
        exact ⟨_, h3, redir_tup.2 rfl⟩
  · by_cases e : s = t
    · subst e
      rw [lk3] at hx
      cases hx
      exact .inr ⟨v, hv, fun sh' sz' es' _ => hc⟩
    · rw [lk2 s e, Option.map_eq_some_iff] at hx
      obtain ⟨y, h3, h4⟩ := hx
      have old : y ≠ .bot → look σ.tmps s = some y := by
        intro hb
        rw [look_strike, Option.map_eq_some_iff] at h3
        obtain ⟨z, h5, h6⟩ := h3
        split at h6
        · exact absurd h6.symm hb
        · rw [h5, h6]
      have same : AV.redir t (.cell k off) y = y → look (VA.strike (AV.leans (.cell k off)) (σ.put t .bot).tmps) s = some x := by
        intro h5
        rw [lk1, if_neg e, h3, ← h4, h5]
      unfold AV.redir at h4
      split at h4
      · rename_i q
        split at h4
        · rename_i hq
          obtain rfl : q = t := by simpa using hq
          subst h4
          obtain ⟨u, u1, u2⟩ := h.slots (.tmp s) _ (old (by simp))
          have : a.tmps[q]? = some u := u2 sh sz es hl
          rw [hv] at this
          cases this
          exact .inr ⟨v, u1, fun sh' sz' es' _ => hc⟩
        · rename_i hq
          exact .inl (same (by unfold AV.redir; simp only; rw [if_neg hq]))
      · rename_i q i o
        split at h4
        · rename_i hq
          obtain rfl : q = t := by simpa using hq
          subst h4
          obtain ⟨u, u1, u2⟩ := h.slots (.tmp s) _ (old (by simp))
          obtain ⟨g, n, cap, u3, u4⟩ := u2 sh sz es hl
          have u3 : a.tmps[q]? = _ := u3
          rw [hv] at u3
          cases u3
          exact .inr ⟨u, u1, fun sh' sz' es' he => ⟨g, n, cap, hc, by rw [hcell _ _ _ he]; exact u4⟩⟩
        · rename_i hq
          exact .inl (same (by unfold AV.redir; simp only; rw [if_neg hq]))
      · rename_i hn1 hn2
        exact .inl (same (by unfold AV.redir; split <;> first | exact absurd rfl (hn1 _) | exact absurd rfl (hn2 _ _ _) | rfl))

theorem op_store (hok : CfgOk C) (h : RI F I own σ a w) {dst : Option Tmp} {T ty : TypeId} {p x : Operand} (hlk : ∀ k off, σ.rd C 0 p = .var k off → F.lv k = false) {pos : String} {after : Array Edge} {g : Option (Nat × Bool)}
    (hw : (opR C σ dst ty (.store T p x)).wp C K) : Oper.wp C.P ⟨dst, .store T p x, ty, pos, after, g⟩ a w (Post F K) Q := by
  have hchk := chk_ok hw
  clear hw
  obtain ⟨hd, hw⟩ := hchk
  obtain rfl : dst = none := by cases dst <;> first | rfl | cases hd
  have hp := rd_ok h C 0 p
  have hx := rd_ok h C T x
  generalize σ.rd C 0 p = y at hp hw hlk
  generalize σ.rd C T x = z at hx hw
  have fin : ∀ {w2 : World}, (Instr.storeAt T (a.eval p) (a.eval x)).run C.P w = .ok () w2 → Post F K a w2 → Oper.wp C.P ⟨none, .store T p x, ty, pos, after, g⟩ a w (Post F K) Q := by
    intro w2 hr hk
    exact by_skip (w' := w2) (by simp [execOp, hr]) hk
  cases y <;> simp only [storeR] at hw <;> try exact hw.elim
  case var k off =>
    have hlk : F.lv k = false := hlk k off rfl
    have hchk := chk_ok hw
    clear hw
    obtain ⟨hkn, hw⟩ := hchk
    have hfit := hok.fit T hkn
    cases hk : look σ.vars k with
    | none => rw [hk] at hw; exact hw.elim
    | some cs =>
      rw [hk] at hw
      simp only [VA.storeVar] at hw
      obtain ⟨b, hb, hv⟩ := hp cs hk
      obtain ⟨b', hb1, hb2, hb3, hb4⟩ := h.boxes k cs hk
      rw [hb] at hb1
      obtain rfl : b = b' := by cases hb1; rfl
      have hcell : ∀ n, off + n ≤ cs.length → ∀ j, j < n → ∃ x, w.cell? ⟨b, off + j, none⟩ = some x ∧ w.frozen? ⟨b, off + j, none⟩ = false := fun n hn j hj => by
        obtain ⟨v, v1, v2, v3⟩ := hb4 (off + j) (by omega)
        exact ⟨v, v1, v3⟩
      have imm : (R.chk (z.isImm && (decide (z.flat.length = (C.ti T).size) && decide (off + (C.ti T).size ≤ cs.length))) (.ok { σ with vars := ins k (putAt cs off z.flat) σ.vars })).wp C K →
          Oper.wp C.P ⟨none, .store T p x, ty, pos, after, g⟩ a w (Post F K) Q := by
        intro hw
        obtain ⟨h1, h2⟩ := chk_ok hw
        simp only [Bool.and_eq_true, decide_eq_true_eq] at h1
        obtain ⟨h1, h3, h4⟩ := h1
        have har := (rv_imm h1).1 hx
        have hsz : (a.eval x).cells.size = (C.ti T).size := by rw [← har.flen]; exact h3
        obtain ⟨r1, r2⟩ := run_storeAt (P := C.P) hv (fit_sizeOf hfit w) hsz (hcell _ h4) fun v hv => by
          obtain ⟨j, hj⟩ := List.getElem?_of_mem hv
          exact har.one j v (by simpa using hj)
        refine fin r1 ⟨I, own, _, h.setVar hk hb (by simp; rw [hsz, h3]) (by rw [h3]; exact h4) r2 (fun v hv => ?_) (fun j c v hc hv => har.fcell j c v hc (by simpa using hv)) hlk, h2⟩
        obtain ⟨j, hj⟩ := List.getElem?_of_mem hv
        exact har.one j v (by simpa using hj)
      have own2 : ∀ {τ : ASt} {cs' : List AV} {sh sz es}, RI F I own τ a w → look τ.vars k = some cs' → cs'.length = cs.length → Hand F I own τ w sh sz es (a.eval x) → off < cs.length → (C.ti T).size = 1 →
          (∀ own' w2, RI F I own' (ASt.setCell { τ with tmps := VA.strike (AV.leans (.cell k off)) τ.tmps } k off (.own sh sz es)) a w2 → conc a w2 (.cell k off) = some (a.eval x) → Post F K a w2) → Oper.wp C.P ⟨none, .store T p x, ty, pos, after, g⟩ a w (Post F K) Q := by
        intro τ cs' sh sz es hτ hk' hl hh ho h1 hw
        have hone : (a.eval x).cells = #[a.eval x] := by
          rcases hh with ⟨e, _⟩ | ⟨g, cap, e, _⟩ <;> rw [e] <;> rfl
        obtain ⟨r1, r2⟩ := run_storeAt (P := C.P) hv (fit_sizeOf hfit w) (by rw [hone, h1]; rfl) (hcell _ (by omega)) fun v hv => by
          rw [hone] at hv
          rw [List.mem_singleton.1 hv]
          rcases hh with ⟨e, _⟩ | ⟨g, cap, e, _⟩ <;> rw [e] <;> rfl
        rw [hone] at r2
        refine fin r1 ?_
        rw [hone]
        refine hw _ _ (hτ.setVarOwn hk' hb (by omega) r2 hh hlk) ?_
        have e0 := r2.cin 0 (by simp)
        show cellOf _ off a.tmps[k]? = _
        rw [hb]
        exact e0
      have own1 : ∀ {τ : ASt} {cs' : List AV} {sh sz es}, RI F I own τ a w → look τ.vars k = some cs' → cs'.length = cs.length → Hand F I own τ w sh sz es (a.eval x) → off < cs.length → (C.ti T).size = 1 →
          (storeOwn C τ k off sh sz es).wp C K → Oper.wp C.P ⟨none, .store T p x, ty, pos, after, g⟩ a w (Post F K) Q := by
        intro τ cs' sh sz es hτ hk' hl hh ho h1 hw
        have hone : (a.eval x).cells = #[a.eval x] := by
          rcases hh with ⟨e, _⟩ | ⟨g, cap, e, _⟩ <;> rw [e] <;> rfl
        obtain ⟨r1, r2⟩ := run_storeAt (P := C.P) hv (fit_sizeOf hfit w) (by rw [hone, h1]; rfl) (hcell _ (by omega)) fun v hv => by
          rw [hone] at hv
          rw [List.mem_singleton.1 hv]
          rcases hh with ⟨e, _⟩ | ⟨g, cap, e, _⟩ <;> rw [e] <;> rfl
        rw [hone] at r2
        refine fin r1 ?_
        rw [hone]
        exact ⟨I, _, _, hτ.setVarOwn hk' hb (by omega) r2 hh hlk, hw⟩
      cases z with
      | ref l =>
        simp only [VA.storeCells] at hw
        cases hl : σ.at l with
        | none => rw [hl] at hw; exact hw.elim
        | some q =>
          rw [hl] at hw
          cases q <;> simp only [storeRef] at hw <;> try exact hw.elim
          rename_i sh sz es
          have hchk := chk_ok hw
          clear hw
          obtain ⟨h1, hw⟩ := hchk
          simp only [Bool.and_eq_true, decide_eq_true_eq] at h1
          obtain ⟨v, e1, e2, e3⟩ := h.inHand hl
          have hv' : conc a w l = some (a.eval x) := hx sh sz es hl
          rw [e1] at hv'
          cases hv'
          obtain ⟨cs', c1, c2⟩ := drop_vars (l := l) hk
          cases l with
          | tmp t => exact own2 e2 c1 c2 e3 h1.1 h1.2 fun own' w2 h3 h4 => ⟨I, own', _, RI.redir h hl e1 h3 h4 ⟨cs, hk⟩, hw⟩
          | _ => exact own1 e2 c1 c2 e3 h1.1 h1.2 hw
      | own sh sz es =>
        obtain ⟨rfl, rfl, e⟩ := hx
        have hchk := chk_ok hw
        clear hw
        obtain ⟨h1, hw⟩ := hchk
        simp only [Bool.and_eq_true, decide_eq_true_eq] at h1
        exact own1 h hk rfl (.inl ⟨e, rfl⟩) h1.1 h1.2 hw
      | _ => exact imm hw
  case elt y i off =>
    cases y <;> simp only [] at hw <;> try exact hw.elim
    rename_i l
    have hchk := chk_ok hw
    clear hw
    obtain ⟨hkn, hw⟩ := hchk
    have hfit := hok.fit T hkn
    cases hi : σ.imm z with
    | none => rw [hi] at hw; exact hw.elim
    | some q =>
      obtain ⟨v', τ⟩ := q
      rw [hi] at hw
      have hchk := chk_ok hw
      clear hw
      obtain ⟨him, hw⟩ := hchk
      obtain ⟨J, j1, j2, j3⟩ := imm_ok h hx hi
      cases hl : τ.at l with
      | none => rw [hl] at hw; exact hw.elim
      | some q =>
        rw [hl] at hw
        cases q <;> simp only [storeRow] at hw <;> try exact hw.elim
        rename_i sh sz es
        cases sh <;> simp only [] at hw <;> try exact hw.elim
        have hchk := chk_ok hw
        clear hw
        obtain ⟨hpl, hw⟩ := hchk
        have hl0 := imm_at hi hl
        obtain ⟨g0, n0, cap0, hc1, hv⟩ := hp false sz es hl0
        obtain ⟨v0, e1, e2⟩ := j2.slots l _ hl
        rw [hc1] at e1
        cases e1
        rcases e2 with ⟨e, _⟩ | ⟨g1, cap1, e, hg, hrow⟩
        · cases e
        cases e
        cases he : es[i]? with
        | none => rw [he] at hw; exact hw.elim
        | some e =>
          rw [he] at hw
          have hil := (List.getElem?_eq_some_iff.1 he).1
          obtain ⟨u, hu1, hu2, hu3⟩ := hrow.elems i e he
          have hjc : ∀ n, off + n ≤ sz → ∀ j, j < n → ∃ x, w.cell? ⟨g0, i * sz + off + j, none⟩ = some x ∧ w.frozen? ⟨g0, i * sz + off + j, none⟩ = false := fun n hn j hj => by
            have := idx_lt (sz := sz) (j := off + j) (Nat.lt_of_lt_of_le hil hrow.le) (by omega)
            exact hrow.cells _ (by omega)
          have h1c : ∀ v ∈ (a.eval x).cells.toList, v.oneCell' = true := fun v hv => by
            obtain ⟨j, hj⟩ := List.getElem?_of_mem hv
            exact j3.one j v (by simpa using hj)
          have finish : ∀ {e' : AV} {u' : Value}, AR F.mo J e' u' → u'.cells.size = sz → (C.ti T).size = (a.eval x).cells.size → off + (C.ti T).size ≤ sz →
              (∀ (j : Nat) c, u'.cells[j]? = some c → if off ≤ j ∧ j < off + (a.eval x).cells.toList.length then (a.eval x).cells.toList[j - off]? = some c else u.cells[j]? = some c) →
              K (τ.turn l (.own false sz (es.set i e'))) → Oper.wp C.P ⟨none, .store T p x, ty, pos, after, g⟩ a w (Post F K) Q := by
            intro e' u' hu' hs' hsz hoff hcells hk
            obtain ⟨r1, r2⟩ := run_storeAt (P := C.P) hv (fit_sizeOf hfit w) hsz.symm (hjc _ hoff) h1c
            have hlies := hrow.lies.set r2 (by simp; omega) hu3 hu' hs' hcells
            refine fin r1 ⟨J, own, _, j2.turnRow hpl hl hc1 hg (Imm.leRefl J) (fun b o v hb => ?_) (fun b o v hb => .inl hb) r2.only (by simp) ⟨by simp; exact hrow.le, hrow.capm, fun o ho => ?_, hlies, fun e => (by cases e), fun o _ => hrow.immn o (fun e => by cases e), fun e o => by rw [r2.frz]; exact hrow.frz e o⟩, hk⟩
            · have hne : b ≠ g0 := fun e => by
                subst e
                rw [hrow.immn o fun e => by cases e] at hb; cases hb
              rw [r2.cell_ne hne o]; exact j2.imm b o v hb
            · obtain ⟨v, v1, v2⟩ := hrow.cells o ho
              rw [r2.frz]
              by_cases e1 : i * sz + off ≤ o ∧ o < i * sz + off + (a.eval x).cells.toList.length
              · have := r2.cin (o - (i * sz + off)) (by omega)
                rw [show i * sz + off + (o - (i * sz + off)) = o by omega] at this
                exact ⟨_, by rw [this]; exact List.getElem?_eq_getElem (by omega), v2⟩
              · exact ⟨v, by rw [r2.cout o (by omega)]; exact v1, v2⟩
          simp only [storePart] at hw
          by_cases hwh : (decide (off = 0) && decide ((C.ti T).size = sz)) = true
          · rw [if_pos hwh] at hw
            have hchk := chk_ok hw
            clear hw
            obtain ⟨h2, hw⟩ := hchk
            simp only [Bool.and_eq_true, decide_eq_true_eq] at hwh h2
            obtain ⟨rfl, hs⟩ := hwh
            have hsz : (a.eval x).cells.size = sz := by rw [← j3.flen, h2, hs]
            refine finish j3 hsz (by rw [hsz]; exact hs) (by rw [hs]; omega) (fun j c hj => ?_) hw
            have hjl := (Array.getElem?_eq_some_iff.1 hj).1
            rw [if_pos ⟨by omega, by simp; omega⟩]
            simpa using hj
          · rw [if_neg hwh] at hw
            cases e <;> simp only [] at hw <;> try exact hw.elim
            rename_i cs
            have hchk := chk_ok hw
            clear hw
            obtain ⟨h2, hw⟩ := hchk
            simp only [Bool.and_eq_true, decide_eq_true_eq] at h2
            obtain ⟨h2, h3⟩ := h2
            have hsz : (a.eval x).cells.size = (C.ti T).size := by rw [← j3.flen, h2]
            cases hu1 with
            | agg _ vs hll h1 hh =>
              have hvs : vs.size = sz := hu2
              -- the new element
              obtain ⟨us, hus1, hus2⟩ : ∃ us : List Value, us.length = vs.size ∧ ∀ j, us[j]? = if off ≤ j ∧ j < off + (a.eval x).cells.size then (a.eval x).cells[j - off]? else vs[j]? := by
                refine ⟨vs.toList.take off ++ (a.eval x).cells.toList ++ vs.toList.drop (off + (a.eval x).cells.size), by simp; omega, fun j => ?_⟩
                have hl1 : (vs.toList.take off).length = off := by simp; omega
                by_cases c1 : j < off
                · rw [if_neg (by omega), List.append_assoc, List.getElem?_append_left (by omega), List.getElem?_take_of_lt c1]; simp
                · by_cases c2 : j < off + (a.eval x).cells.size
                  · rw [if_pos ⟨by omega, c2⟩, List.append_assoc, List.getElem?_append_right (by omega), hl1, List.getElem?_append_left (by simp; omega)]; simp
                  · rw [if_neg (by omega), List.getElem?_append_right (by simp [hl1]; omega), List.getElem?_drop]
                    simp only [List.length_append, hl1, Array.length_toList, Array.getElem?_toList]
                    congr 1; omega
              have hpl2 := putAt_length cs v'.flat off (by rw [h2]; exact h3)
              refine finish (u' := .agg us.toArray) (AR.agg _ _ (by rw [hpl2, hll]; simp [hus1]) (fun j v hj => ?_) fun j c v hc hv' => ?_) (by simp [Value.cells, hus1, hvs]) hsz.symm (by omega) (fun j c hj => ?_) hw
              · rw [List.getElem?_toArray, hus2] at hj
                split at hj
                · exact j3.one _ _ hj
                · exact h1 j v hj
              · rw [List.getElem?_toArray, hus2] at hv'
                rw [putAt_get cs v'.flat off j (by rw [h2]; exact h3), h2] at hc
                rw [hsz] at hv'
                by_cases c1 : off ≤ j ∧ j < off + (C.ti T).size
                · rw [if_pos c1] at hc hv'
                  exact j3.fcell _ _ _ hc hv'
                · rw [if_neg c1] at hc hv'
                  exact (hh j c v hc hv').mono (fun _ h => h) (Imm.leRefl J)
              · simp only [Value.cells] at hj
                rw [List.getElem?_toArray, hus2] at hj
                simp only [Array.length_toList]
                split at hj
                · rename_i c1
                  rw [if_pos c1]; simpa using hj
                · rename_i c1
                  rw [if_neg c1]; exact hj

end
end Go.Proofs.Ytmngjlgeojbghaa.VA
end
