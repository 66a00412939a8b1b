/-
  NARROWER THAN 'FOR EVERY INPUT', by the rows' own cells (each row's printed sentence says how): ItemBack: loops · ItemTakes: loops · ItemParses: loops.
  DERIVED. THE GIVEN ROWS OF THIS SEAT. 3 by the template 'for every input the law returns true; each argument reads behind the call as it read before'; 0 by the template 'total and deterministic' (their statements: YtmngjlgeojbghaaTotals.lean).
  GIVEN WITH THE SEED: the statements are not yours to turn. If you find one false, say at which input.
  Laid BY PROGRAM, IN A SANDBOX (cutbox-rows.mjs): the forced cells as the released guide's own fill.sh prints them over the translation d74897442cf00459… (all of the seat's roots in one cut). By AI agents, Wed Nov 11 2026. No macro, syntax, notation, axiom, sorry.
-/
import Derived.Test.YtmngjlgeojbghaaChecked
import GoSem.Claim
import GoSem.ClaimJoined
import GoSem.ClaimMapViews
import Derived.JoinedTies
import Derived.KernelRfl
namespace Go.Proofs.Ytmngjlgeojbghaa
/- THE CELL 'sum', in the pinned program and in every row, IS THE sha256 OF THE DUMP (.gsa) THAT YtmngjlgeojbghaaProg.lean LOADS. Nothing in Lean hashes anything: it is a label: what it is worth is what the hold of that sum in a sandbox is worth. -/
noncomputable def Try.pinned : Pinned := { name := "ytmngjlgeojbghaa", sum := "d74897442cf00459ae187b64ef3f8b16031df02a4bbfb9d2e20a8d45a82e5870", checked := Try.checked }
namespace Rows
def none {H : Type} : Left H := { results := [], args := [] }

/-- 'tarnlaw4.ItemBack': WHATEVER THE INPUT: true; the input reads as it did. -/
def itemBackSpec : ChangeSpec := { name := "itemBack", fn := fun _ => fun
  | [d] => { results := [.lit (.bool true)], args := [d] }
  | _ => none }
def itemBackRow : OpenClaim := { program := "ytmngjlgeojbghaa", sum := "d74897442cf00459ae187b64ef3f8b16031df02a4bbfb9d2e20a8d45a82e5870", func := "tarn/tarnlaw4.ItemBack", spec := "itemBack", unfollowed := true, recurses := true, loops := true, apart := false }
def ItemBackSaid : Prop := itemBackRow.holds Try.pinned (OpenSpec.ofChange itemBackSpec)

/-- ITS FALSE NEIGHBOUR: 'it returns false'. Refute it at one input. -/
def itemBackWrong : ChangeSpec := { name := "itemBack", fn := fun _ => fun
  | [d] => { results := [.lit (.bool false)], args := [d] }
  | _ => none }
def ItemBackWrongFalsely : Prop := itemBackRow.holds Try.pinned (OpenSpec.ofChange itemBackWrong)

/-- 'tarnlaw4.ItemTakes': WHATEVER THE INPUT: true; the input reads as it did. -/
def itemTakesSpec : ChangeSpec := { name := "itemTakes", fn := fun _ => fun
  | [d] => { results := [.lit (.bool true)], args := [d] }
  | _ => none }
def itemTakesRow : OpenClaim := { program := "ytmngjlgeojbghaa", sum := "d74897442cf00459ae187b64ef3f8b16031df02a4bbfb9d2e20a8d45a82e5870", func := "tarn/tarnlaw4.ItemTakes", spec := "itemTakes", unfollowed := true, recurses := true, loops := true, apart := false }
def ItemTakesSaid : Prop := itemTakesRow.holds Try.pinned (OpenSpec.ofChange itemTakesSpec)

/-- ITS FALSE NEIGHBOUR: 'it returns false'. Refute it at one input. -/
def itemTakesWrong : ChangeSpec := { name := "itemTakes", fn := fun _ => fun
  | [d] => { results := [.lit (.bool false)], args := [d] }
  | _ => none }
def ItemTakesWrongFalsely : Prop := itemTakesRow.holds Try.pinned (OpenSpec.ofChange itemTakesWrong)

/-- 'tarnlaw4.ItemParses': WHATEVER THE INPUT: true; the input reads as it did. -/
def itemParsesSpec : ChangeSpec := { name := "itemParses", fn := fun _ => fun
  | [d] => { results := [.lit (.bool true)], args := [d] }
  | _ => none }
def itemParsesRow : OpenClaim := { program := "ytmngjlgeojbghaa", sum := "d74897442cf00459ae187b64ef3f8b16031df02a4bbfb9d2e20a8d45a82e5870", func := "tarn/tarnlaw4.ItemParses", spec := "itemParses", unfollowed := true, recurses := true, loops := true, apart := false }
def ItemParsesSaid : Prop := itemParsesRow.holds Try.pinned (OpenSpec.ofChange itemParsesSpec)

/-- ITS FALSE NEIGHBOUR: 'it returns false'. Refute it at one input. -/
def itemParsesWrong : ChangeSpec := { name := "itemParses", fn := fun _ => fun
  | [d] => { results := [.lit (.bool false)], args := [d] }
  | _ => none }
def ItemParsesWrongFalsely : Prop := itemParsesRow.holds Try.pinned (OpenSpec.ofChange itemParsesWrong)

/- THE SECOND FORM. 'bulk': how many values and letters a reading holds, each counted each time it is reached (what is shared counts as often as it is met; a slice's spare places count too). A statement '..UptoSaid' is the law's where the arguments, and the package variables that the reading takes, are together of bulk at most 1048576: NARROWER than '..Said'. Prove '..Said' where nothing that the law and all that it calls make is longer than what came in: it says more and counts as full. Else prove '..UptoSaid'. A law counts once. -/
mutual
def uptoBulk {H : Type} : DataW H → Nat
  | .lit (.string bytes) => bytes.length + 1
  | .lit _ => 1
  | .nil => 1
  | .ptr d => uptoBulk d + 1
  | .slice elems spare => uptoBulkAll elems + uptoBulkAll spare + 1
  | .agg parts => uptoBulkAll parts + 1
  | .iface _ d => uptoBulk d + 1
  | .map entries => uptoBulkEntries entries + 1
  | .held _ => 1
def uptoBulkAll {H : Type} : List (DataW H) → Nat
  | [] => 0
  | d :: r => uptoBulk d + uptoBulkAll r
def uptoBulkEntries {H : Type} : List (Lit × DataW H) → Nat
  | [] => 0
  | x :: r => uptoBulkEntry x + uptoBulkEntries r
def uptoBulkEntry {H : Type} : Lit × DataW H → Nat
  | (.string bytes, d) => bytes.length + uptoBulk d + 1
  | (_, d) => uptoBulk d + 1
 end
def uptoSmall : (H : Type) → List (DataW H) → Bool := fun _ ds => decide (uptoBulkAll ds ≤ 1048576)
def OpenSpec.upto (s : _root_.Go.ChangeSpec) : _root_.Go.OpenSpec := { _root_.Go.OpenSpec.ofChange s with cond := some uptoSmall }

/-- 'tarnlaw4.ItemBack', WHERE WHAT IT READS IS OF BULK AT MOST 1048576: true; the input reads as it did. -/
def itemBackUptoRow : OpenClaim := { program := "ytmngjlgeojbghaa", sum := "d74897442cf00459ae187b64ef3f8b16031df02a4bbfb9d2e20a8d45a82e5870", func := "tarn/tarnlaw4.ItemBack", spec := "itemBack", unfollowed := true, recurses := true, loops := true, apart := false, narrowed := true }
def ItemBackUptoSaid : Prop := itemBackUptoRow.holds Try.pinned (OpenSpec.upto itemBackSpec)

/-- 'tarnlaw4.ItemTakes', WHERE WHAT IT READS IS OF BULK AT MOST 1048576: true; the input reads as it did. -/
def itemTakesUptoRow : OpenClaim := { program := "ytmngjlgeojbghaa", sum := "d74897442cf00459ae187b64ef3f8b16031df02a4bbfb9d2e20a8d45a82e5870", func := "tarn/tarnlaw4.ItemTakes", spec := "itemTakes", unfollowed := true, recurses := true, loops := true, apart := false, narrowed := true }
def ItemTakesUptoSaid : Prop := itemTakesUptoRow.holds Try.pinned (OpenSpec.upto itemTakesSpec)

/-- 'tarnlaw4.ItemParses', WHERE WHAT IT READS IS OF BULK AT MOST 1048576: true; the input reads as it did. -/
def itemParsesUptoRow : OpenClaim := { program := "ytmngjlgeojbghaa", sum := "d74897442cf00459ae187b64ef3f8b16031df02a4bbfb9d2e20a8d45a82e5870", func := "tarn/tarnlaw4.ItemParses", spec := "itemParses", unfollowed := true, recurses := true, loops := true, apart := false, narrowed := true }
def ItemParsesUptoSaid : Prop := itemParsesUptoRow.holds Try.pinned (OpenSpec.upto itemParsesSpec)

end Rows
end Go.Proofs.Ytmngjlgeojbghaa
