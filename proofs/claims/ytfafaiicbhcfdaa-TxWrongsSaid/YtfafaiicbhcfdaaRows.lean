/-
  No cell of these rows narrows 'for every input' (looked for: loops, veiled, ifaces, maps, wideKeys, modest, calm, conditions, laid).
  DERIVED. THE GIVEN ROWS OF THIS SEAT. 14 by the template 'for every input the law returns true; each argument reads behind the call as it read before'; 0 by the template 'total and deterministic' (their statements: YtfafaiicbhcfdaaTotals.lean).
  GIVEN WITH THE SEED: the statements are not yours to turn. If you find one false, say at which input.
  Laid BY PROGRAM, IN A SANDBOX (cutbox-rows.mjs): the forced cells as the released guide's own fill.sh prints them over the translation 49cc1db6475633f1… (all of the seat's roots in one cut). By AI agents, Wed Nov 11 2026. No macro, syntax, notation, axiom, sorry.
-/
import Derived.Test.YtfafaiicbhcfdaaChecked
import GoSem.Claim
import GoSem.ClaimJoined
import GoSem.ClaimMapViews
import Derived.JoinedTies
import Derived.KernelRfl
namespace Go.Proofs.Ytfafaiicbhcfdaa
/- THE CELL 'sum', in the pinned program and in every row, IS THE sha256 OF THE DUMP (.gsa) THAT YtfafaiicbhcfdaaProg.lean LOADS. Nothing in Lean hashes anything: it is a label: what it is worth is what the hold of that sum in a sandbox is worth. -/
noncomputable def Try.pinned : Pinned := { name := "ytfafaiicbhcfdaa", sum := "49cc1db6475633f10a50b58b68d8cbcc5dc74caa558699ffd92eac62bbfc21f2", checked := Try.checked }
namespace Rows
def none {H : Type} : Left H := { results := [], args := [] }

/-- 'tarnlaw8.SizeTells': WHATEVER THE INPUT: true; the input reads as it did. -/
def sizeTellsSpec : ChangeSpec := { name := "sizeTells", fn := fun _ => fun
  | [d] => { results := [.lit (.bool true)], args := [d] }
  | _ => none }
def sizeTellsRow : OpenClaim := { program := "ytfafaiicbhcfdaa", sum := "49cc1db6475633f10a50b58b68d8cbcc5dc74caa558699ffd92eac62bbfc21f2", func := "tarn/tarnlaw8.SizeTells", spec := "sizeTells", inPlace := ["math/bits.Add64"], unfollowed := true, recurses := true, apart := false }
def SizeTellsSaid : Prop := sizeTellsRow.holds Try.pinned (OpenSpec.ofChange sizeTellsSpec)

/-- ITS FALSE NEIGHBOUR: 'it returns false'. Refute it at one input. -/
def sizeTellsWrong : ChangeSpec := { name := "sizeTells", fn := fun _ => fun
  | [d] => { results := [.lit (.bool false)], args := [d] }
  | _ => none }
def SizeTellsWrongFalsely : Prop := sizeTellsRow.holds Try.pinned (OpenSpec.ofChange sizeTellsWrong)

/-- 'tarnlaw8.SizeFits': WHATEVER THE INPUT: true; the input reads as it did. -/
def sizeFitsSpec : ChangeSpec := { name := "sizeFits", fn := fun _ => fun
  | [d] => { results := [.lit (.bool true)], args := [d] }
  | _ => none }
def sizeFitsRow : OpenClaim := { program := "ytfafaiicbhcfdaa", sum := "49cc1db6475633f10a50b58b68d8cbcc5dc74caa558699ffd92eac62bbfc21f2", func := "tarn/tarnlaw8.SizeFits", spec := "sizeFits", inPlace := ["math/bits.Add64"], unfollowed := true, recurses := true, apart := false }
def SizeFitsSaid : Prop := sizeFitsRow.holds Try.pinned (OpenSpec.ofChange sizeFitsSpec)

/-- ITS FALSE NEIGHBOUR: 'it returns false'. Refute it at one input. -/
def sizeFitsWrong : ChangeSpec := { name := "sizeFits", fn := fun _ => fun
  | [d] => { results := [.lit (.bool false)], args := [d] }
  | _ => none }
def SizeFitsWrongFalsely : Prop := sizeFitsRow.holds Try.pinned (OpenSpec.ofChange sizeFitsWrong)

/-- 'tarnlaw7.TxTakes': WHATEVER THE INPUT: true; the input reads as it did. -/
def txTakesSpec : ChangeSpec := { name := "txTakes", fn := fun _ => fun
  | [d] => { results := [.lit (.bool true)], args := [d] }
  | _ => none }
def txTakesRow : OpenClaim := { program := "ytfafaiicbhcfdaa", sum := "49cc1db6475633f10a50b58b68d8cbcc5dc74caa558699ffd92eac62bbfc21f2", func := "tarn/tarnlaw7.TxTakes", spec := "txTakes", inPlace := ["math/bits.Add64"], unfollowed := true, recurses := true, apart := false }
def TxTakesSaid : Prop := txTakesRow.holds Try.pinned (OpenSpec.ofChange txTakesSpec)

/-- ITS FALSE NEIGHBOUR: 'it returns false'. Refute it at one input. -/
def txTakesWrong : ChangeSpec := { name := "txTakes", fn := fun _ => fun
  | [d] => { results := [.lit (.bool false)], args := [d] }
  | _ => none }
def TxTakesWrongFalsely : Prop := txTakesRow.holds Try.pinned (OpenSpec.ofChange txTakesWrong)

/-- 'tarnlaw7.TxBack': WHATEVER THE INPUT: true; the input reads as it did. -/
def txBackSpec : ChangeSpec := { name := "txBack", fn := fun _ => fun
  | [d] => { results := [.lit (.bool true)], args := [d] }
  | _ => none }
def txBackRow : OpenClaim := { program := "ytfafaiicbhcfdaa", sum := "49cc1db6475633f10a50b58b68d8cbcc5dc74caa558699ffd92eac62bbfc21f2", func := "tarn/tarnlaw7.TxBack", spec := "txBack", inPlace := ["math/bits.Add64"], unfollowed := true, recurses := true, apart := false }
def TxBackSaid : Prop := txBackRow.holds Try.pinned (OpenSpec.ofChange txBackSpec)

/-- ITS FALSE NEIGHBOUR: 'it returns false'. Refute it at one input. -/
def txBackWrong : ChangeSpec := { name := "txBack", fn := fun _ => fun
  | [d] => { results := [.lit (.bool false)], args := [d] }
  | _ => none }
def TxBackWrongFalsely : Prop := txBackRow.holds Try.pinned (OpenSpec.ofChange txBackWrong)

/-- 'tarnlaw7.TxWrongs': WHATEVER THE INPUT: true; the input reads as it did. -/
def txWrongsSpec : ChangeSpec := { name := "txWrongs", fn := fun _ => fun
  | [d] => { results := [.lit (.bool true)], args := [d] }
  | _ => none }
def txWrongsRow : OpenClaim := { program := "ytfafaiicbhcfdaa", sum := "49cc1db6475633f10a50b58b68d8cbcc5dc74caa558699ffd92eac62bbfc21f2", func := "tarn/tarnlaw7.TxWrongs", spec := "txWrongs", inPlace := ["math/bits.Add64"], unfollowed := true, recurses := true, apart := false }
def TxWrongsSaid : Prop := txWrongsRow.holds Try.pinned (OpenSpec.ofChange txWrongsSpec)

/-- ITS FALSE NEIGHBOUR: 'it returns false'. Refute it at one input. -/
def txWrongsWrong : ChangeSpec := { name := "txWrongs", fn := fun _ => fun
  | [d] => { results := [.lit (.bool false)], args := [d] }
  | _ => none }
def TxWrongsWrongFalsely : Prop := txWrongsRow.holds Try.pinned (OpenSpec.ofChange txWrongsWrong)

/-- 'tarnlaw7.TxFroms': WHATEVER THE INPUT: true; the input reads as it did. -/
def txFromsSpec : ChangeSpec := { name := "txFroms", fn := fun _ => fun
  | [d] => { results := [.lit (.bool true)], args := [d] }
  | _ => none }
def txFromsRow : OpenClaim := { program := "ytfafaiicbhcfdaa", sum := "49cc1db6475633f10a50b58b68d8cbcc5dc74caa558699ffd92eac62bbfc21f2", func := "tarn/tarnlaw7.TxFroms", spec := "txFroms", inPlace := ["math/bits.Add64"], unfollowed := true, recurses := true, apart := false }
def TxFromsSaid : Prop := txFromsRow.holds Try.pinned (OpenSpec.ofChange txFromsSpec)

/-- ITS FALSE NEIGHBOUR: 'it returns false'. Refute it at one input. -/
def txFromsWrong : ChangeSpec := { name := "txFroms", fn := fun _ => fun
  | [d] => { results := [.lit (.bool false)], args := [d] }
  | _ => none }
def TxFromsWrongFalsely : Prop := txFromsRow.holds Try.pinned (OpenSpec.ofChange txFromsWrong)

/-- 'tarnlaw7.TxNonces': WHATEVER THE INPUT: true; the input reads as it did. -/
def txNoncesSpec : ChangeSpec := { name := "txNonces", fn := fun _ => fun
  | [d] => { results := [.lit (.bool true)], args := [d] }
  | _ => none }
def txNoncesRow : OpenClaim := { program := "ytfafaiicbhcfdaa", sum := "49cc1db6475633f10a50b58b68d8cbcc5dc74caa558699ffd92eac62bbfc21f2", func := "tarn/tarnlaw7.TxNonces", spec := "txNonces", inPlace := ["math/bits.Add64"], unfollowed := true, recurses := true, apart := false }
def TxNoncesSaid : Prop := txNoncesRow.holds Try.pinned (OpenSpec.ofChange txNoncesSpec)

/-- ITS FALSE NEIGHBOUR: 'it returns false'. Refute it at one input. -/
def txNoncesWrong : ChangeSpec := { name := "txNonces", fn := fun _ => fun
  | [d] => { results := [.lit (.bool false)], args := [d] }
  | _ => none }
def TxNoncesWrongFalsely : Prop := txNoncesRow.holds Try.pinned (OpenSpec.ofChange txNoncesWrong)

/-- 'tarnlaw7.TxGases': WHATEVER THE INPUT: true; the input reads as it did. -/
def txGasesSpec : ChangeSpec := { name := "txGases", fn := fun _ => fun
  | [d] => { results := [.lit (.bool true)], args := [d] }
  | _ => none }
def txGasesRow : OpenClaim := { program := "ytfafaiicbhcfdaa", sum := "49cc1db6475633f10a50b58b68d8cbcc5dc74caa558699ffd92eac62bbfc21f2", func := "tarn/tarnlaw7.TxGases", spec := "txGases", inPlace := ["math/bits.Add64"], unfollowed := true, recurses := true, apart := false }
def TxGasesSaid : Prop := txGasesRow.holds Try.pinned (OpenSpec.ofChange txGasesSpec)

/-- ITS FALSE NEIGHBOUR: 'it returns false'. Refute it at one input. -/
def txGasesWrong : ChangeSpec := { name := "txGases", fn := fun _ => fun
  | [d] => { results := [.lit (.bool false)], args := [d] }
  | _ => none }
def TxGasesWrongFalsely : Prop := txGasesRow.holds Try.pinned (OpenSpec.ofChange txGasesWrong)

/-- 'tarnlaw7.TxTips': WHATEVER THE INPUT: true; the input reads as it did. -/
def txTipsSpec : ChangeSpec := { name := "txTips", fn := fun _ => fun
  | [d] => { results := [.lit (.bool true)], args := [d] }
  | _ => none }
def txTipsRow : OpenClaim := { program := "ytfafaiicbhcfdaa", sum := "49cc1db6475633f10a50b58b68d8cbcc5dc74caa558699ffd92eac62bbfc21f2", func := "tarn/tarnlaw7.TxTips", spec := "txTips", inPlace := ["math/bits.Add64"], unfollowed := true, recurses := true, apart := false }
def TxTipsSaid : Prop := txTipsRow.holds Try.pinned (OpenSpec.ofChange txTipsSpec)

/-- ITS FALSE NEIGHBOUR: 'it returns false'. Refute it at one input. -/
def txTipsWrong : ChangeSpec := { name := "txTips", fn := fun _ => fun
  | [d] => { results := [.lit (.bool false)], args := [d] }
  | _ => none }
def TxTipsWrongFalsely : Prop := txTipsRow.holds Try.pinned (OpenSpec.ofChange txTipsWrong)

/-- 'tarnlaw7.TxCaps': WHATEVER THE INPUT: true; the input reads as it did. -/
def txCapsSpec : ChangeSpec := { name := "txCaps", fn := fun _ => fun
  | [d] => { results := [.lit (.bool true)], args := [d] }
  | _ => none }
def txCapsRow : OpenClaim := { program := "ytfafaiicbhcfdaa", sum := "49cc1db6475633f10a50b58b68d8cbcc5dc74caa558699ffd92eac62bbfc21f2", func := "tarn/tarnlaw7.TxCaps", spec := "txCaps", inPlace := ["math/bits.Add64"], unfollowed := true, recurses := true, apart := false }
def TxCapsSaid : Prop := txCapsRow.holds Try.pinned (OpenSpec.ofChange txCapsSpec)

/-- ITS FALSE NEIGHBOUR: 'it returns false'. Refute it at one input. -/
def txCapsWrong : ChangeSpec := { name := "txCaps", fn := fun _ => fun
  | [d] => { results := [.lit (.bool false)], args := [d] }
  | _ => none }
def TxCapsWrongFalsely : Prop := txCapsRow.holds Try.pinned (OpenSpec.ofChange txCapsWrong)

/-- 'tarnlaw7.TxBlobCaps': WHATEVER THE INPUT: true; the input reads as it did. -/
def txBlobCapsSpec : ChangeSpec := { name := "txBlobCaps", fn := fun _ => fun
  | [d] => { results := [.lit (.bool true)], args := [d] }
  | _ => none }
def txBlobCapsRow : OpenClaim := { program := "ytfafaiicbhcfdaa", sum := "49cc1db6475633f10a50b58b68d8cbcc5dc74caa558699ffd92eac62bbfc21f2", func := "tarn/tarnlaw7.TxBlobCaps", spec := "txBlobCaps", inPlace := ["math/bits.Add64"], unfollowed := true, recurses := true, apart := false }
def TxBlobCapsSaid : Prop := txBlobCapsRow.holds Try.pinned (OpenSpec.ofChange txBlobCapsSpec)

/-- ITS FALSE NEIGHBOUR: 'it returns false'. Refute it at one input. -/
def txBlobCapsWrong : ChangeSpec := { name := "txBlobCaps", fn := fun _ => fun
  | [d] => { results := [.lit (.bool false)], args := [d] }
  | _ => none }
def TxBlobCapsWrongFalsely : Prop := txBlobCapsRow.holds Try.pinned (OpenSpec.ofChange txBlobCapsWrong)

/-- 'tarnlaw7.TxValues': WHATEVER THE INPUT: true; the input reads as it did. -/
def txValuesSpec : ChangeSpec := { name := "txValues", fn := fun _ => fun
  | [d] => { results := [.lit (.bool true)], args := [d] }
  | _ => none }
def txValuesRow : OpenClaim := { program := "ytfafaiicbhcfdaa", sum := "49cc1db6475633f10a50b58b68d8cbcc5dc74caa558699ffd92eac62bbfc21f2", func := "tarn/tarnlaw7.TxValues", spec := "txValues", inPlace := ["math/bits.Add64"], unfollowed := true, recurses := true, apart := false }
def TxValuesSaid : Prop := txValuesRow.holds Try.pinned (OpenSpec.ofChange txValuesSpec)

/-- ITS FALSE NEIGHBOUR: 'it returns false'. Refute it at one input. -/
def txValuesWrong : ChangeSpec := { name := "txValues", fn := fun _ => fun
  | [d] => { results := [.lit (.bool false)], args := [d] }
  | _ => none }
def TxValuesWrongFalsely : Prop := txValuesRow.holds Try.pinned (OpenSpec.ofChange txValuesWrong)

/-- 'tarnlaw7.TxBytes': WHATEVER THE INPUT: true; the input reads as it did. -/
def txBytesSpec : ChangeSpec := { name := "txBytes", fn := fun _ => fun
  | [d] => { results := [.lit (.bool true)], args := [d] }
  | _ => none }
def txBytesRow : OpenClaim := { program := "ytfafaiicbhcfdaa", sum := "49cc1db6475633f10a50b58b68d8cbcc5dc74caa558699ffd92eac62bbfc21f2", func := "tarn/tarnlaw7.TxBytes", spec := "txBytes", inPlace := ["math/bits.Add64"], unfollowed := true, recurses := true, apart := false }
def TxBytesSaid : Prop := txBytesRow.holds Try.pinned (OpenSpec.ofChange txBytesSpec)

/-- ITS FALSE NEIGHBOUR: 'it returns false'. Refute it at one input. -/
def txBytesWrong : ChangeSpec := { name := "txBytes", fn := fun _ => fun
  | [d] => { results := [.lit (.bool false)], args := [d] }
  | _ => none }
def TxBytesWrongFalsely : Prop := txBytesRow.holds Try.pinned (OpenSpec.ofChange txBytesWrong)

/-- 'tarnlaw7.TxPays': WHATEVER THE INPUT: true; the input reads as it did. -/
def txPaysSpec : ChangeSpec := { name := "txPays", fn := fun _ => fun
  | [d] => { results := [.lit (.bool true)], args := [d] }
  | _ => none }
def txPaysRow : OpenClaim := { program := "ytfafaiicbhcfdaa", sum := "49cc1db6475633f10a50b58b68d8cbcc5dc74caa558699ffd92eac62bbfc21f2", func := "tarn/tarnlaw7.TxPays", spec := "txPays", inPlace := ["math/bits.Add64", "math/bits.Sub64"], unfollowed := true, recurses := true, apart := false }
def TxPaysSaid : Prop := txPaysRow.holds Try.pinned (OpenSpec.ofChange txPaysSpec)

/-- ITS FALSE NEIGHBOUR: 'it returns false'. Refute it at one input. -/
def txPaysWrong : ChangeSpec := { name := "txPays", fn := fun _ => fun
  | [d] => { results := [.lit (.bool false)], args := [d] }
  | _ => none }
def TxPaysWrongFalsely : Prop := txPaysRow.holds Try.pinned (OpenSpec.ofChange txPaysWrong)

/- THE SECOND FORM. 'bulk': how many values and letters a reading holds, each counted each time it is reached (what is shared counts as often as it is met; a slice's spare places count too). A statement '..UptoSaid' is the law's where the arguments, and the package variables that the reading takes, are together of bulk at most 1048576: NARROWER than '..Said'. Prove '..Said' where nothing that the law and all that it calls make is longer than what came in: it says more and counts as full. Else prove '..UptoSaid'. A law counts once. -/
mutual
def uptoBulk {H : Type} : DataW H → Nat
  | .lit (.string bytes) => bytes.length + 1
  | .lit _ => 1
  | .nil => 1
  | .ptr d => uptoBulk d + 1
  | .slice elems spare => uptoBulkAll elems + uptoBulkAll spare + 1
  | .agg parts => uptoBulkAll parts + 1
  | .iface _ d => uptoBulk d + 1
  | .map entries => uptoBulkEntries entries + 1
  | .held _ => 1
def uptoBulkAll {H : Type} : List (DataW H) → Nat
  | [] => 0
  | d :: r => uptoBulk d + uptoBulkAll r
def uptoBulkEntries {H : Type} : List (Lit × DataW H) → Nat
  | [] => 0
  | x :: r => uptoBulkEntry x + uptoBulkEntries r
def uptoBulkEntry {H : Type} : Lit × DataW H → Nat
  | (.string bytes, d) => bytes.length + uptoBulk d + 1
  | (_, d) => uptoBulk d + 1
 end
def uptoSmall : (H : Type) → List (DataW H) → Bool := fun _ ds => decide (uptoBulkAll ds ≤ 1048576)
def OpenSpec.upto (s : _root_.Go.ChangeSpec) : _root_.Go.OpenSpec := { _root_.Go.OpenSpec.ofChange s with cond := some uptoSmall }

/-- 'tarnlaw8.SizeTells', WHERE WHAT IT READS IS OF BULK AT MOST 1048576: true; the input reads as it did. -/
def sizeTellsUptoRow : OpenClaim := { program := "ytfafaiicbhcfdaa", sum := "49cc1db6475633f10a50b58b68d8cbcc5dc74caa558699ffd92eac62bbfc21f2", func := "tarn/tarnlaw8.SizeTells", spec := "sizeTells", inPlace := ["math/bits.Add64"], unfollowed := true, recurses := true, apart := false, narrowed := true }
def SizeTellsUptoSaid : Prop := sizeTellsUptoRow.holds Try.pinned (OpenSpec.upto sizeTellsSpec)

/-- 'tarnlaw8.SizeFits', WHERE WHAT IT READS IS OF BULK AT MOST 1048576: true; the input reads as it did. -/
def sizeFitsUptoRow : OpenClaim := { program := "ytfafaiicbhcfdaa", sum := "49cc1db6475633f10a50b58b68d8cbcc5dc74caa558699ffd92eac62bbfc21f2", func := "tarn/tarnlaw8.SizeFits", spec := "sizeFits", inPlace := ["math/bits.Add64"], unfollowed := true, recurses := true, apart := false, narrowed := true }
def SizeFitsUptoSaid : Prop := sizeFitsUptoRow.holds Try.pinned (OpenSpec.upto sizeFitsSpec)

/-- 'tarnlaw7.TxTakes', WHERE WHAT IT READS IS OF BULK AT MOST 1048576: true; the input reads as it did. -/
def txTakesUptoRow : OpenClaim := { program := "ytfafaiicbhcfdaa", sum := "49cc1db6475633f10a50b58b68d8cbcc5dc74caa558699ffd92eac62bbfc21f2", func := "tarn/tarnlaw7.TxTakes", spec := "txTakes", inPlace := ["math/bits.Add64"], unfollowed := true, recurses := true, apart := false, narrowed := true }
def TxTakesUptoSaid : Prop := txTakesUptoRow.holds Try.pinned (OpenSpec.upto txTakesSpec)

/-- 'tarnlaw7.TxBack', WHERE WHAT IT READS IS OF BULK AT MOST 1048576: true; the input reads as it did. -/
def txBackUptoRow : OpenClaim := { program := "ytfafaiicbhcfdaa", sum := "49cc1db6475633f10a50b58b68d8cbcc5dc74caa558699ffd92eac62bbfc21f2", func := "tarn/tarnlaw7.TxBack", spec := "txBack", inPlace := ["math/bits.Add64"], unfollowed := true, recurses := true, apart := false, narrowed := true }
def TxBackUptoSaid : Prop := txBackUptoRow.holds Try.pinned (OpenSpec.upto txBackSpec)

/-- 'tarnlaw7.TxWrongs', WHERE WHAT IT READS IS OF BULK AT MOST 1048576: true; the input reads as it did. -/
def txWrongsUptoRow : OpenClaim := { program := "ytfafaiicbhcfdaa", sum := "49cc1db6475633f10a50b58b68d8cbcc5dc74caa558699ffd92eac62bbfc21f2", func := "tarn/tarnlaw7.TxWrongs", spec := "txWrongs", inPlace := ["math/bits.Add64"], unfollowed := true, recurses := true, apart := false, narrowed := true }
def TxWrongsUptoSaid : Prop := txWrongsUptoRow.holds Try.pinned (OpenSpec.upto txWrongsSpec)

/-- 'tarnlaw7.TxFroms', WHERE WHAT IT READS IS OF BULK AT MOST 1048576: true; the input reads as it did. -/
def txFromsUptoRow : OpenClaim := { program := "ytfafaiicbhcfdaa", sum := "49cc1db6475633f10a50b58b68d8cbcc5dc74caa558699ffd92eac62bbfc21f2", func := "tarn/tarnlaw7.TxFroms", spec := "txFroms", inPlace := ["math/bits.Add64"], unfollowed := true, recurses := true, apart := false, narrowed := true }
def TxFromsUptoSaid : Prop := txFromsUptoRow.holds Try.pinned (OpenSpec.upto txFromsSpec)

/-- 'tarnlaw7.TxNonces', WHERE WHAT IT READS IS OF BULK AT MOST 1048576: true; the input reads as it did. -/
def txNoncesUptoRow : OpenClaim := { program := "ytfafaiicbhcfdaa", sum := "49cc1db6475633f10a50b58b68d8cbcc5dc74caa558699ffd92eac62bbfc21f2", func := "tarn/tarnlaw7.TxNonces", spec := "txNonces", inPlace := ["math/bits.Add64"], unfollowed := true, recurses := true, apart := false, narrowed := true }
def TxNoncesUptoSaid : Prop := txNoncesUptoRow.holds Try.pinned (OpenSpec.upto txNoncesSpec)

/-- 'tarnlaw7.TxGases', WHERE WHAT IT READS IS OF BULK AT MOST 1048576: true; the input reads as it did. -/
def txGasesUptoRow : OpenClaim := { program := "ytfafaiicbhcfdaa", sum := "49cc1db6475633f10a50b58b68d8cbcc5dc74caa558699ffd92eac62bbfc21f2", func := "tarn/tarnlaw7.TxGases", spec := "txGases", inPlace := ["math/bits.Add64"], unfollowed := true, recurses := true, apart := false, narrowed := true }
def TxGasesUptoSaid : Prop := txGasesUptoRow.holds Try.pinned (OpenSpec.upto txGasesSpec)

/-- 'tarnlaw7.TxTips', WHERE WHAT IT READS IS OF BULK AT MOST 1048576: true; the input reads as it did. -/
def txTipsUptoRow : OpenClaim := { program := "ytfafaiicbhcfdaa", sum := "49cc1db6475633f10a50b58b68d8cbcc5dc74caa558699ffd92eac62bbfc21f2", func := "tarn/tarnlaw7.TxTips", spec := "txTips", inPlace := ["math/bits.Add64"], unfollowed := true, recurses := true, apart := false, narrowed := true }
def TxTipsUptoSaid : Prop := txTipsUptoRow.holds Try.pinned (OpenSpec.upto txTipsSpec)

/-- 'tarnlaw7.TxCaps', WHERE WHAT IT READS IS OF BULK AT MOST 1048576: true; the input reads as it did. -/
def txCapsUptoRow : OpenClaim := { program := "ytfafaiicbhcfdaa", sum := "49cc1db6475633f10a50b58b68d8cbcc5dc74caa558699ffd92eac62bbfc21f2", func := "tarn/tarnlaw7.TxCaps", spec := "txCaps", inPlace := ["math/bits.Add64"], unfollowed := true, recurses := true, apart := false, narrowed := true }
def TxCapsUptoSaid : Prop := txCapsUptoRow.holds Try.pinned (OpenSpec.upto txCapsSpec)

/-- 'tarnlaw7.TxBlobCaps', WHERE WHAT IT READS IS OF BULK AT MOST 1048576: true; the input reads as it did. -/
def txBlobCapsUptoRow : OpenClaim := { program := "ytfafaiicbhcfdaa", sum := "49cc1db6475633f10a50b58b68d8cbcc5dc74caa558699ffd92eac62bbfc21f2", func := "tarn/tarnlaw7.TxBlobCaps", spec := "txBlobCaps", inPlace := ["math/bits.Add64"], unfollowed := true, recurses := true, apart := false, narrowed := true }
def TxBlobCapsUptoSaid : Prop := txBlobCapsUptoRow.holds Try.pinned (OpenSpec.upto txBlobCapsSpec)

/-- 'tarnlaw7.TxValues', WHERE WHAT IT READS IS OF BULK AT MOST 1048576: true; the input reads as it did. -/
def txValuesUptoRow : OpenClaim := { program := "ytfafaiicbhcfdaa", sum := "49cc1db6475633f10a50b58b68d8cbcc5dc74caa558699ffd92eac62bbfc21f2", func := "tarn/tarnlaw7.TxValues", spec := "txValues", inPlace := ["math/bits.Add64"], unfollowed := true, recurses := true, apart := false, narrowed := true }
def TxValuesUptoSaid : Prop := txValuesUptoRow.holds Try.pinned (OpenSpec.upto txValuesSpec)

/-- 'tarnlaw7.TxBytes', WHERE WHAT IT READS IS OF BULK AT MOST 1048576: true; the input reads as it did. -/
def txBytesUptoRow : OpenClaim := { program := "ytfafaiicbhcfdaa", sum := "49cc1db6475633f10a50b58b68d8cbcc5dc74caa558699ffd92eac62bbfc21f2", func := "tarn/tarnlaw7.TxBytes", spec := "txBytes", inPlace := ["math/bits.Add64"], unfollowed := true, recurses := true, apart := false, narrowed := true }
def TxBytesUptoSaid : Prop := txBytesUptoRow.holds Try.pinned (OpenSpec.upto txBytesSpec)

/-- 'tarnlaw7.TxPays', WHERE WHAT IT READS IS OF BULK AT MOST 1048576: true; the input reads as it did. -/
def txPaysUptoRow : OpenClaim := { program := "ytfafaiicbhcfdaa", sum := "49cc1db6475633f10a50b58b68d8cbcc5dc74caa558699ffd92eac62bbfc21f2", func := "tarn/tarnlaw7.TxPays", spec := "txPays", inPlace := ["math/bits.Add64", "math/bits.Sub64"], unfollowed := true, recurses := true, apart := false, narrowed := true }
def TxPaysUptoSaid : Prop := txPaysUptoRow.holds Try.pinned (OpenSpec.upto txPaysSpec)

end Rows
end Go.Proofs.Ytfafaiicbhcfdaa
