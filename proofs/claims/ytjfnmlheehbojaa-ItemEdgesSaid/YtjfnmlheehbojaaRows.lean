/-
  NARROWER THAN 'FOR EVERY INPUT', by the rows' own cells (each row's printed sentence says how): ItemBytes: loops · ItemEach: loops · ItemBack: loops · ItemEdges: loops · ItemTakes: loops · ItemTexts: loops · ItemLists: loops · ItemParses: loops.
  DERIVED. THE GIVEN ROWS OF THIS SEAT. 14 by the template 'for every input the law returns true; each argument reads behind the call as it read before'; 0 by the template 'total and deterministic' (their statements: YtjfnmlheehbojaaTotals.lean).
  GIVEN WITH THE SEED: the statements are not yours to turn. If you find one false, say at which input.
  Laid BY PROGRAM, IN A SANDBOX (cutbox-rows.mjs): the forced cells as the released guide's own fill.sh prints them over the translation c28e689c870d6b75… (all of the seat's roots in one cut). By AI agents, Wed Nov 11 2026. No macro, syntax, notation, axiom, sorry.
-/
import Derived.Test.YtjfnmlheehbojaaChecked
import GoSem.Claim
import GoSem.ClaimJoined
import GoSem.ClaimMapViews
import Derived.JoinedTies
import Derived.KernelRfl
namespace Go.Proofs.Ytjfnmlheehbojaa
/- THE CELL 'sum', in the pinned program and in every row, IS THE sha256 OF THE DUMP (.gsa) THAT YtjfnmlheehbojaaProg.lean LOADS. Nothing in Lean hashes anything: it is a label: what it is worth is what the hold of that sum in a sandbox is worth. -/
noncomputable def Try.pinned : Pinned := { name := "ytjfnmlheehbojaa", sum := "c28e689c870d6b750c2a70c668fa8c66162cf0adf4347499c3c48b06fbf99f5b", checked := Try.checked }
namespace Rows
def none {H : Type} : Left H := { results := [], args := [] }

/-- 'tarnlaw8.SizeLengths': WHATEVER THE INPUT: true; the input reads as it did. -/
def sizeLengthsSpec : ChangeSpec := { name := "sizeLengths", fn := fun _ => fun
  | [d] => { results := [.lit (.bool true)], args := [d] }
  | _ => none }
def sizeLengthsRow : OpenClaim := { program := "ytjfnmlheehbojaa", sum := "c28e689c870d6b750c2a70c668fa8c66162cf0adf4347499c3c48b06fbf99f5b", func := "tarn/tarnlaw8.SizeLengths", spec := "sizeLengths", apart := false }
def SizeLengthsSaid : Prop := sizeLengthsRow.holds Try.pinned (OpenSpec.ofChange sizeLengthsSpec)

/-- ITS FALSE NEIGHBOUR: 'it returns false'. Refute it at one input. -/
def sizeLengthsWrong : ChangeSpec := { name := "sizeLengths", fn := fun _ => fun
  | [d] => { results := [.lit (.bool false)], args := [d] }
  | _ => none }
def SizeLengthsWrongFalsely : Prop := sizeLengthsRow.holds Try.pinned (OpenSpec.ofChange sizeLengthsWrong)

/-- 'tarnlaw6.BlobHashes': WHATEVER THE INPUT: true; the input reads as it did. -/
def blobHashesSpec : ChangeSpec := { name := "blobHashes", fn := fun _ => fun
  | [d] => { results := [.lit (.bool true)], args := [d] }
  | _ => none }
def blobHashesRow : OpenClaim := { program := "ytjfnmlheehbojaa", sum := "c28e689c870d6b750c2a70c668fa8c66162cf0adf4347499c3c48b06fbf99f5b", func := "tarn/tarnlaw6.BlobHashes", spec := "blobHashes", apart := false }
def BlobHashesSaid : Prop := blobHashesRow.holds Try.pinned (OpenSpec.ofChange blobHashesSpec)

/-- ITS FALSE NEIGHBOUR: 'it returns false'. Refute it at one input. -/
def blobHashesWrong : ChangeSpec := { name := "blobHashes", fn := fun _ => fun
  | [d] => { results := [.lit (.bool false)], args := [d] }
  | _ => none }
def BlobHashesWrongFalsely : Prop := blobHashesRow.holds Try.pinned (OpenSpec.ofChange blobHashesWrong)

/-- 'tarnlaw5.MarkTells': WHATEVER THE INPUT: true; the input reads as it did. -/
def markTellsSpec : ChangeSpec := { name := "markTells", fn := fun _ => fun
  | [d] => { results := [.lit (.bool true)], args := [d] }
  | _ => none }
def markTellsRow : OpenClaim := { program := "ytjfnmlheehbojaa", sum := "c28e689c870d6b750c2a70c668fa8c66162cf0adf4347499c3c48b06fbf99f5b", func := "tarn/tarnlaw5.MarkTells", spec := "markTells", apart := false }
def MarkTellsSaid : Prop := markTellsRow.holds Try.pinned (OpenSpec.ofChange markTellsSpec)

/-- ITS FALSE NEIGHBOUR: 'it returns false'. Refute it at one input. -/
def markTellsWrong : ChangeSpec := { name := "markTells", fn := fun _ => fun
  | [d] => { results := [.lit (.bool false)], args := [d] }
  | _ => none }
def MarkTellsWrongFalsely : Prop := markTellsRow.holds Try.pinned (OpenSpec.ofChange markTellsWrong)

/-- 'tarnlaw5.MarkOnes': WHATEVER THE INPUT: true; the input reads as it did. -/
def markOnesSpec : ChangeSpec := { name := "markOnes", fn := fun _ => fun
  | [d] => { results := [.lit (.bool true)], args := [d] }
  | _ => none }
def markOnesRow : OpenClaim := { program := "ytjfnmlheehbojaa", sum := "c28e689c870d6b750c2a70c668fa8c66162cf0adf4347499c3c48b06fbf99f5b", func := "tarn/tarnlaw5.MarkOnes", spec := "markOnes", apart := false }
def MarkOnesSaid : Prop := markOnesRow.holds Try.pinned (OpenSpec.ofChange markOnesSpec)

/-- ITS FALSE NEIGHBOUR: 'it returns false'. Refute it at one input. -/
def markOnesWrong : ChangeSpec := { name := "markOnes", fn := fun _ => fun
  | [d] => { results := [.lit (.bool false)], args := [d] }
  | _ => none }
def MarkOnesWrongFalsely : Prop := markOnesRow.holds Try.pinned (OpenSpec.ofChange markOnesWrong)

/-- 'tarnlaw6.BlobTells': WHATEVER THE INPUT: true; the input reads as it did. -/
def blobTellsSpec : ChangeSpec := { name := "blobTells", fn := fun _ => fun
  | [d] => { results := [.lit (.bool true)], args := [d] }
  | _ => none }
def blobTellsRow : OpenClaim := { program := "ytjfnmlheehbojaa", sum := "c28e689c870d6b750c2a70c668fa8c66162cf0adf4347499c3c48b06fbf99f5b", func := "tarn/tarnlaw6.BlobTells", spec := "blobTells", apart := false }
def BlobTellsSaid : Prop := blobTellsRow.holds Try.pinned (OpenSpec.ofChange blobTellsSpec)

/-- ITS FALSE NEIGHBOUR: 'it returns false'. Refute it at one input. -/
def blobTellsWrong : ChangeSpec := { name := "blobTells", fn := fun _ => fun
  | [d] => { results := [.lit (.bool false)], args := [d] }
  | _ => none }
def BlobTellsWrongFalsely : Prop := blobTellsRow.holds Try.pinned (OpenSpec.ofChange blobTellsWrong)

/-- 'tarnlaw6.BlobFits': WHATEVER THE INPUT: true; the input reads as it did. -/
def blobFitsSpec : ChangeSpec := { name := "blobFits", fn := fun _ => fun
  | [d] => { results := [.lit (.bool true)], args := [d] }
  | _ => none }
def blobFitsRow : OpenClaim := { program := "ytjfnmlheehbojaa", sum := "c28e689c870d6b750c2a70c668fa8c66162cf0adf4347499c3c48b06fbf99f5b", func := "tarn/tarnlaw6.BlobFits", spec := "blobFits", apart := false }
def BlobFitsSaid : Prop := blobFitsRow.holds Try.pinned (OpenSpec.ofChange blobFitsSpec)

/-- ITS FALSE NEIGHBOUR: 'it returns false'. Refute it at one input. -/
def blobFitsWrong : ChangeSpec := { name := "blobFits", fn := fun _ => fun
  | [d] => { results := [.lit (.bool false)], args := [d] }
  | _ => none }
def BlobFitsWrongFalsely : Prop := blobFitsRow.holds Try.pinned (OpenSpec.ofChange blobFitsWrong)

/-- 'tarnlaw4.ItemBytes': WHATEVER THE INPUT: true; the input reads as it did. -/
def itemBytesSpec : ChangeSpec := { name := "itemBytes", fn := fun _ => fun
  | [d] => { results := [.lit (.bool true)], args := [d] }
  | _ => none }
def itemBytesRow : OpenClaim := { program := "ytjfnmlheehbojaa", sum := "c28e689c870d6b750c2a70c668fa8c66162cf0adf4347499c3c48b06fbf99f5b", func := "tarn/tarnlaw4.ItemBytes", spec := "itemBytes", unfollowed := true, recurses := true, loops := true, apart := false }
def ItemBytesSaid : Prop := itemBytesRow.holds Try.pinned (OpenSpec.ofChange itemBytesSpec)

/-- ITS FALSE NEIGHBOUR: 'it returns false'. Refute it at one input. -/
def itemBytesWrong : ChangeSpec := { name := "itemBytes", fn := fun _ => fun
  | [d] => { results := [.lit (.bool false)], args := [d] }
  | _ => none }
def ItemBytesWrongFalsely : Prop := itemBytesRow.holds Try.pinned (OpenSpec.ofChange itemBytesWrong)

/-- 'tarnlaw4.ItemEach': WHATEVER THE INPUT: true; the input reads as it did. -/
def itemEachSpec : ChangeSpec := { name := "itemEach", fn := fun _ => fun
  | [d] => { results := [.lit (.bool true)], args := [d] }
  | _ => none }
def itemEachRow : OpenClaim := { program := "ytjfnmlheehbojaa", sum := "c28e689c870d6b750c2a70c668fa8c66162cf0adf4347499c3c48b06fbf99f5b", func := "tarn/tarnlaw4.ItemEach", spec := "itemEach", unfollowed := true, recurses := true, loops := true, apart := false }
def ItemEachSaid : Prop := itemEachRow.holds Try.pinned (OpenSpec.ofChange itemEachSpec)

/-- ITS FALSE NEIGHBOUR: 'it returns false'. Refute it at one input. -/
def itemEachWrong : ChangeSpec := { name := "itemEach", fn := fun _ => fun
  | [d] => { results := [.lit (.bool false)], args := [d] }
  | _ => none }
def ItemEachWrongFalsely : Prop := itemEachRow.holds Try.pinned (OpenSpec.ofChange itemEachWrong)

/-- 'tarnlaw4.ItemBack': WHATEVER THE INPUT: true; the input reads as it did. -/
def itemBackSpec : ChangeSpec := { name := "itemBack", fn := fun _ => fun
  | [d] => { results := [.lit (.bool true)], args := [d] }
  | _ => none }
def itemBackRow : OpenClaim := { program := "ytjfnmlheehbojaa", sum := "c28e689c870d6b750c2a70c668fa8c66162cf0adf4347499c3c48b06fbf99f5b", func := "tarn/tarnlaw4.ItemBack", spec := "itemBack", unfollowed := true, recurses := true, loops := true, apart := false }
def ItemBackSaid : Prop := itemBackRow.holds Try.pinned (OpenSpec.ofChange itemBackSpec)

/-- ITS FALSE NEIGHBOUR: 'it returns false'. Refute it at one input. -/
def itemBackWrong : ChangeSpec := { name := "itemBack", fn := fun _ => fun
  | [d] => { results := [.lit (.bool false)], args := [d] }
  | _ => none }
def ItemBackWrongFalsely : Prop := itemBackRow.holds Try.pinned (OpenSpec.ofChange itemBackWrong)

/-- 'tarnlaw4.ItemEdges': WHATEVER THE INPUT: true; the input reads as it did. -/
def itemEdgesSpec : ChangeSpec := { name := "itemEdges", fn := fun _ => fun
  | [d] => { results := [.lit (.bool true)], args := [d] }
  | _ => none }
def itemEdgesRow : OpenClaim := { program := "ytjfnmlheehbojaa", sum := "c28e689c870d6b750c2a70c668fa8c66162cf0adf4347499c3c48b06fbf99f5b", func := "tarn/tarnlaw4.ItemEdges", spec := "itemEdges", unfollowed := true, recurses := true, loops := true, apart := false }
def ItemEdgesSaid : Prop := itemEdgesRow.holds Try.pinned (OpenSpec.ofChange itemEdgesSpec)

/-- ITS FALSE NEIGHBOUR: 'it returns false'. Refute it at one input. -/
def itemEdgesWrong : ChangeSpec := { name := "itemEdges", fn := fun _ => fun
  | [d] => { results := [.lit (.bool false)], args := [d] }
  | _ => none }
def ItemEdgesWrongFalsely : Prop := itemEdgesRow.holds Try.pinned (OpenSpec.ofChange itemEdgesWrong)

/-- 'tarnlaw4.ItemTakes': WHATEVER THE INPUT: true; the input reads as it did. -/
def itemTakesSpec : ChangeSpec := { name := "itemTakes", fn := fun _ => fun
  | [d] => { results := [.lit (.bool true)], args := [d] }
  | _ => none }
def itemTakesRow : OpenClaim := { program := "ytjfnmlheehbojaa", sum := "c28e689c870d6b750c2a70c668fa8c66162cf0adf4347499c3c48b06fbf99f5b", func := "tarn/tarnlaw4.ItemTakes", spec := "itemTakes", unfollowed := true, recurses := true, loops := true, apart := false }
def ItemTakesSaid : Prop := itemTakesRow.holds Try.pinned (OpenSpec.ofChange itemTakesSpec)

/-- ITS FALSE NEIGHBOUR: 'it returns false'. Refute it at one input. -/
def itemTakesWrong : ChangeSpec := { name := "itemTakes", fn := fun _ => fun
  | [d] => { results := [.lit (.bool false)], args := [d] }
  | _ => none }
def ItemTakesWrongFalsely : Prop := itemTakesRow.holds Try.pinned (OpenSpec.ofChange itemTakesWrong)

/-- 'tarnlaw4.ItemTexts': WHATEVER THE INPUT: true; the input reads as it did. -/
def itemTextsSpec : ChangeSpec := { name := "itemTexts", fn := fun _ => fun
  | [d] => { results := [.lit (.bool true)], args := [d] }
  | _ => none }
def itemTextsRow : OpenClaim := { program := "ytjfnmlheehbojaa", sum := "c28e689c870d6b750c2a70c668fa8c66162cf0adf4347499c3c48b06fbf99f5b", func := "tarn/tarnlaw4.ItemTexts", spec := "itemTexts", unfollowed := true, recurses := true, loops := true, apart := false }
def ItemTextsSaid : Prop := itemTextsRow.holds Try.pinned (OpenSpec.ofChange itemTextsSpec)

/-- ITS FALSE NEIGHBOUR: 'it returns false'. Refute it at one input. -/
def itemTextsWrong : ChangeSpec := { name := "itemTexts", fn := fun _ => fun
  | [d] => { results := [.lit (.bool false)], args := [d] }
  | _ => none }
def ItemTextsWrongFalsely : Prop := itemTextsRow.holds Try.pinned (OpenSpec.ofChange itemTextsWrong)

/-- 'tarnlaw4.ItemLists': WHATEVER THE INPUT: true; the input reads as it did. -/
def itemListsSpec : ChangeSpec := { name := "itemLists", fn := fun _ => fun
  | [d] => { results := [.lit (.bool true)], args := [d] }
  | _ => none }
def itemListsRow : OpenClaim := { program := "ytjfnmlheehbojaa", sum := "c28e689c870d6b750c2a70c668fa8c66162cf0adf4347499c3c48b06fbf99f5b", func := "tarn/tarnlaw4.ItemLists", spec := "itemLists", unfollowed := true, recurses := true, loops := true, apart := false }
def ItemListsSaid : Prop := itemListsRow.holds Try.pinned (OpenSpec.ofChange itemListsSpec)

/-- ITS FALSE NEIGHBOUR: 'it returns false'. Refute it at one input. -/
def itemListsWrong : ChangeSpec := { name := "itemLists", fn := fun _ => fun
  | [d] => { results := [.lit (.bool false)], args := [d] }
  | _ => none }
def ItemListsWrongFalsely : Prop := itemListsRow.holds Try.pinned (OpenSpec.ofChange itemListsWrong)

/-- 'tarnlaw4.ItemParses': WHATEVER THE INPUT: true; the input reads as it did. -/
def itemParsesSpec : ChangeSpec := { name := "itemParses", fn := fun _ => fun
  | [d] => { results := [.lit (.bool true)], args := [d] }
  | _ => none }
def itemParsesRow : OpenClaim := { program := "ytjfnmlheehbojaa", sum := "c28e689c870d6b750c2a70c668fa8c66162cf0adf4347499c3c48b06fbf99f5b", func := "tarn/tarnlaw4.ItemParses", spec := "itemParses", unfollowed := true, recurses := true, loops := true, apart := false }
def ItemParsesSaid : Prop := itemParsesRow.holds Try.pinned (OpenSpec.ofChange itemParsesSpec)

/-- ITS FALSE NEIGHBOUR: 'it returns false'. Refute it at one input. -/
def itemParsesWrong : ChangeSpec := { name := "itemParses", fn := fun _ => fun
  | [d] => { results := [.lit (.bool false)], args := [d] }
  | _ => none }
def ItemParsesWrongFalsely : Prop := itemParsesRow.holds Try.pinned (OpenSpec.ofChange itemParsesWrong)

/- THE SECOND FORM. 'bulk': how many values and letters a reading holds, each counted each time it is reached (what is shared counts as often as it is met; a slice's spare places count too). A statement '..UptoSaid' is the law's where the arguments, and the package variables that the reading takes, are together of bulk at most 1048576: NARROWER than '..Said'. Prove '..Said' where nothing that the law and all that it calls make is longer than what came in: it says more and counts as full. Else prove '..UptoSaid'. A law counts once. -/
mutual
def uptoBulk {H : Type} : DataW H → Nat
  | .lit (.string bytes) => bytes.length + 1
  | .lit _ => 1
  | .nil => 1
  | .ptr d => uptoBulk d + 1
  | .slice elems spare => uptoBulkAll elems + uptoBulkAll spare + 1
  | .agg parts => uptoBulkAll parts + 1
  | .iface _ d => uptoBulk d + 1
  | .map entries => uptoBulkEntries entries + 1
  | .held _ => 1
def uptoBulkAll {H : Type} : List (DataW H) → Nat
  | [] => 0
  | d :: r => uptoBulk d + uptoBulkAll r
def uptoBulkEntries {H : Type} : List (Lit × DataW H) → Nat
  | [] => 0
  | x :: r => uptoBulkEntry x + uptoBulkEntries r
def uptoBulkEntry {H : Type} : Lit × DataW H → Nat
  | (.string bytes, d) => bytes.length + uptoBulk d + 1
  | (_, d) => uptoBulk d + 1
 end
def uptoSmall : (H : Type) → List (DataW H) → Bool := fun _ ds => decide (uptoBulkAll ds ≤ 1048576)
def OpenSpec.upto (s : _root_.Go.ChangeSpec) : _root_.Go.OpenSpec := { _root_.Go.OpenSpec.ofChange s with cond := some uptoSmall }

/-- 'tarnlaw8.SizeLengths', WHERE WHAT IT READS IS OF BULK AT MOST 1048576: true; the input reads as it did. -/
def sizeLengthsUptoRow : OpenClaim := { program := "ytjfnmlheehbojaa", sum := "c28e689c870d6b750c2a70c668fa8c66162cf0adf4347499c3c48b06fbf99f5b", func := "tarn/tarnlaw8.SizeLengths", spec := "sizeLengths", apart := false, narrowed := true }
def SizeLengthsUptoSaid : Prop := sizeLengthsUptoRow.holds Try.pinned (OpenSpec.upto sizeLengthsSpec)

/-- 'tarnlaw6.BlobHashes', WHERE WHAT IT READS IS OF BULK AT MOST 1048576: true; the input reads as it did. -/
def blobHashesUptoRow : OpenClaim := { program := "ytjfnmlheehbojaa", sum := "c28e689c870d6b750c2a70c668fa8c66162cf0adf4347499c3c48b06fbf99f5b", func := "tarn/tarnlaw6.BlobHashes", spec := "blobHashes", apart := false, narrowed := true }
def BlobHashesUptoSaid : Prop := blobHashesUptoRow.holds Try.pinned (OpenSpec.upto blobHashesSpec)

/-- 'tarnlaw5.MarkTells', WHERE WHAT IT READS IS OF BULK AT MOST 1048576: true; the input reads as it did. -/
def markTellsUptoRow : OpenClaim := { program := "ytjfnmlheehbojaa", sum := "c28e689c870d6b750c2a70c668fa8c66162cf0adf4347499c3c48b06fbf99f5b", func := "tarn/tarnlaw5.MarkTells", spec := "markTells", apart := false, narrowed := true }
def MarkTellsUptoSaid : Prop := markTellsUptoRow.holds Try.pinned (OpenSpec.upto markTellsSpec)

/-- 'tarnlaw5.MarkOnes', WHERE WHAT IT READS IS OF BULK AT MOST 1048576: true; the input reads as it did. -/
def markOnesUptoRow : OpenClaim := { program := "ytjfnmlheehbojaa", sum := "c28e689c870d6b750c2a70c668fa8c66162cf0adf4347499c3c48b06fbf99f5b", func := "tarn/tarnlaw5.MarkOnes", spec := "markOnes", apart := false, narrowed := true }
def MarkOnesUptoSaid : Prop := markOnesUptoRow.holds Try.pinned (OpenSpec.upto markOnesSpec)

/-- 'tarnlaw6.BlobTells', WHERE WHAT IT READS IS OF BULK AT MOST 1048576: true; the input reads as it did. -/
def blobTellsUptoRow : OpenClaim := { program := "ytjfnmlheehbojaa", sum := "c28e689c870d6b750c2a70c668fa8c66162cf0adf4347499c3c48b06fbf99f5b", func := "tarn/tarnlaw6.BlobTells", spec := "blobTells", apart := false, narrowed := true }
def BlobTellsUptoSaid : Prop := blobTellsUptoRow.holds Try.pinned (OpenSpec.upto blobTellsSpec)

/-- 'tarnlaw6.BlobFits', WHERE WHAT IT READS IS OF BULK AT MOST 1048576: true; the input reads as it did. -/
def blobFitsUptoRow : OpenClaim := { program := "ytjfnmlheehbojaa", sum := "c28e689c870d6b750c2a70c668fa8c66162cf0adf4347499c3c48b06fbf99f5b", func := "tarn/tarnlaw6.BlobFits", spec := "blobFits", apart := false, narrowed := true }
def BlobFitsUptoSaid : Prop := blobFitsUptoRow.holds Try.pinned (OpenSpec.upto blobFitsSpec)

/-- 'tarnlaw4.ItemBytes', WHERE WHAT IT READS IS OF BULK AT MOST 1048576: true; the input reads as it did. -/
def itemBytesUptoRow : OpenClaim := { program := "ytjfnmlheehbojaa", sum := "c28e689c870d6b750c2a70c668fa8c66162cf0adf4347499c3c48b06fbf99f5b", func := "tarn/tarnlaw4.ItemBytes", spec := "itemBytes", unfollowed := true, recurses := true, loops := true, apart := false, narrowed := true }
def ItemBytesUptoSaid : Prop := itemBytesUptoRow.holds Try.pinned (OpenSpec.upto itemBytesSpec)

/-- 'tarnlaw4.ItemEach', WHERE WHAT IT READS IS OF BULK AT MOST 1048576: true; the input reads as it did. -/
def itemEachUptoRow : OpenClaim := { program := "ytjfnmlheehbojaa", sum := "c28e689c870d6b750c2a70c668fa8c66162cf0adf4347499c3c48b06fbf99f5b", func := "tarn/tarnlaw4.ItemEach", spec := "itemEach", unfollowed := true, recurses := true, loops := true, apart := false, narrowed := true }
def ItemEachUptoSaid : Prop := itemEachUptoRow.holds Try.pinned (OpenSpec.upto itemEachSpec)

/-- 'tarnlaw4.ItemBack', WHERE WHAT IT READS IS OF BULK AT MOST 1048576: true; the input reads as it did. -/
def itemBackUptoRow : OpenClaim := { program := "ytjfnmlheehbojaa", sum := "c28e689c870d6b750c2a70c668fa8c66162cf0adf4347499c3c48b06fbf99f5b", func := "tarn/tarnlaw4.ItemBack", spec := "itemBack", unfollowed := true, recurses := true, loops := true, apart := false, narrowed := true }
def ItemBackUptoSaid : Prop := itemBackUptoRow.holds Try.pinned (OpenSpec.upto itemBackSpec)

/-- 'tarnlaw4.ItemEdges', WHERE WHAT IT READS IS OF BULK AT MOST 1048576: true; the input reads as it did. -/
def itemEdgesUptoRow : OpenClaim := { program := "ytjfnmlheehbojaa", sum := "c28e689c870d6b750c2a70c668fa8c66162cf0adf4347499c3c48b06fbf99f5b", func := "tarn/tarnlaw4.ItemEdges", spec := "itemEdges", unfollowed := true, recurses := true, loops := true, apart := false, narrowed := true }
def ItemEdgesUptoSaid : Prop := itemEdgesUptoRow.holds Try.pinned (OpenSpec.upto itemEdgesSpec)

/-- 'tarnlaw4.ItemTakes', WHERE WHAT IT READS IS OF BULK AT MOST 1048576: true; the input reads as it did. -/
def itemTakesUptoRow : OpenClaim := { program := "ytjfnmlheehbojaa", sum := "c28e689c870d6b750c2a70c668fa8c66162cf0adf4347499c3c48b06fbf99f5b", func := "tarn/tarnlaw4.ItemTakes", spec := "itemTakes", unfollowed := true, recurses := true, loops := true, apart := false, narrowed := true }
def ItemTakesUptoSaid : Prop := itemTakesUptoRow.holds Try.pinned (OpenSpec.upto itemTakesSpec)

/-- 'tarnlaw4.ItemTexts', WHERE WHAT IT READS IS OF BULK AT MOST 1048576: true; the input reads as it did. -/
def itemTextsUptoRow : OpenClaim := { program := "ytjfnmlheehbojaa", sum := "c28e689c870d6b750c2a70c668fa8c66162cf0adf4347499c3c48b06fbf99f5b", func := "tarn/tarnlaw4.ItemTexts", spec := "itemTexts", unfollowed := true, recurses := true, loops := true, apart := false, narrowed := true }
def ItemTextsUptoSaid : Prop := itemTextsUptoRow.holds Try.pinned (OpenSpec.upto itemTextsSpec)

/-- 'tarnlaw4.ItemLists', WHERE WHAT IT READS IS OF BULK AT MOST 1048576: true; the input reads as it did. -/
def itemListsUptoRow : OpenClaim := { program := "ytjfnmlheehbojaa", sum := "c28e689c870d6b750c2a70c668fa8c66162cf0adf4347499c3c48b06fbf99f5b", func := "tarn/tarnlaw4.ItemLists", spec := "itemLists", unfollowed := true, recurses := true, loops := true, apart := false, narrowed := true }
def ItemListsUptoSaid : Prop := itemListsUptoRow.holds Try.pinned (OpenSpec.upto itemListsSpec)

/-- 'tarnlaw4.ItemParses', WHERE WHAT IT READS IS OF BULK AT MOST 1048576: true; the input reads as it did. -/
def itemParsesUptoRow : OpenClaim := { program := "ytjfnmlheehbojaa", sum := "c28e689c870d6b750c2a70c668fa8c66162cf0adf4347499c3c48b06fbf99f5b", func := "tarn/tarnlaw4.ItemParses", spec := "itemParses", unfollowed := true, recurses := true, loops := true, apart := false, narrowed := true }
def ItemParsesUptoSaid : Prop := itemParsesUptoRow.holds Try.pinned (OpenSpec.upto itemParsesSpec)

end Rows
end Go.Proofs.Ytjfnmlheehbojaa
