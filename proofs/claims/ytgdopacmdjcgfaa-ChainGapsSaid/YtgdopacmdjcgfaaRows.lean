/-
  No cell of these rows narrows 'for every input' (looked for: loops, veiled, ifaces, maps, wideKeys, modest, calm, conditions, laid).
  DERIVED. THE GIVEN ROWS OF THIS SEAT. 13 by the template 'for every input the law returns true; each argument reads behind the call as it read before'; 0 by the template 'total and deterministic' (their statements: YtgdopacmdjcgfaaTotals.lean).
  GIVEN WITH THE SEED: the statements are not yours to turn. If you find one false, say at which input.
  Laid BY PROGRAM, IN A SANDBOX (cutbox-rows.mjs): the forced cells as the released guide's own fill.sh prints them over the translation 7f51ead0eab2ca16… (all of the seat's roots in one cut). By AI agents, Wed Nov 11 2026. No macro, syntax, notation, axiom, sorry.
-/
import Derived.Test.YtgdopacmdjcgfaaChecked
import GoSem.Claim
import GoSem.ClaimJoined
import GoSem.ClaimMapViews
import Derived.JoinedTies
import Derived.KernelRfl
namespace Go.Proofs.Ytgdopacmdjcgfaa
/- THE CELL 'sum', in the pinned program and in every row, IS THE sha256 OF THE DUMP (.gsa) THAT YtgdopacmdjcgfaaProg.lean LOADS. Nothing in Lean hashes anything: it is a label: what it is worth is what the hold of that sum in a sandbox is worth. -/
noncomputable def Try.pinned : Pinned := { name := "ytgdopacmdjcgfaa", sum := "7f51ead0eab2ca16cef3cf07d2f81ebdb6ae33339bfe69057d790b0a2260fef0", checked := Try.checked }
namespace Rows
def none {H : Type} : Left H := { results := [], args := [] }

/-- 'tarnlaw15.BumpTips': WHATEVER THE INPUT: true; the input reads as it did. -/
def bumpTipsSpec : ChangeSpec := { name := "bumpTips", fn := fun _ => fun
  | [d] => { results := [.lit (.bool true)], args := [d] }
  | _ => none }
def bumpTipsRow : OpenClaim := { program := "ytgdopacmdjcgfaa", sum := "7f51ead0eab2ca16cef3cf07d2f81ebdb6ae33339bfe69057d790b0a2260fef0", func := "tarn/tarnlaw15.BumpTips", spec := "bumpTips", inPlace := ["math/bits.Add64"], apart := false }
def BumpTipsSaid : Prop := bumpTipsRow.holds Try.pinned (OpenSpec.ofChange bumpTipsSpec)

/-- ITS FALSE NEIGHBOUR: 'it returns false'. Refute it at one input. -/
def bumpTipsWrong : ChangeSpec := { name := "bumpTips", fn := fun _ => fun
  | [d] => { results := [.lit (.bool false)], args := [d] }
  | _ => none }
def BumpTipsWrongFalsely : Prop := bumpTipsRow.holds Try.pinned (OpenSpec.ofChange bumpTipsWrong)

/-- 'tarnlaw15.BumpCaps': WHATEVER THE INPUT: true; the input reads as it did. -/
def bumpCapsSpec : ChangeSpec := { name := "bumpCaps", fn := fun _ => fun
  | [d] => { results := [.lit (.bool true)], args := [d] }
  | _ => none }
def bumpCapsRow : OpenClaim := { program := "ytgdopacmdjcgfaa", sum := "7f51ead0eab2ca16cef3cf07d2f81ebdb6ae33339bfe69057d790b0a2260fef0", func := "tarn/tarnlaw15.BumpCaps", spec := "bumpCaps", inPlace := ["math/bits.Add64"], apart := false }
def BumpCapsSaid : Prop := bumpCapsRow.holds Try.pinned (OpenSpec.ofChange bumpCapsSpec)

/-- ITS FALSE NEIGHBOUR: 'it returns false'. Refute it at one input. -/
def bumpCapsWrong : ChangeSpec := { name := "bumpCaps", fn := fun _ => fun
  | [d] => { results := [.lit (.bool false)], args := [d] }
  | _ => none }
def BumpCapsWrongFalsely : Prop := bumpCapsRow.holds Try.pinned (OpenSpec.ofChange bumpCapsWrong)

/-- 'tarnlaw15.BumpBlobCaps': WHATEVER THE INPUT: true; the input reads as it did. -/
def bumpBlobCapsSpec : ChangeSpec := { name := "bumpBlobCaps", fn := fun _ => fun
  | [d] => { results := [.lit (.bool true)], args := [d] }
  | _ => none }
def bumpBlobCapsRow : OpenClaim := { program := "ytgdopacmdjcgfaa", sum := "7f51ead0eab2ca16cef3cf07d2f81ebdb6ae33339bfe69057d790b0a2260fef0", func := "tarn/tarnlaw15.BumpBlobCaps", spec := "bumpBlobCaps", inPlace := ["math/bits.Add64"], apart := false }
def BumpBlobCapsSaid : Prop := bumpBlobCapsRow.holds Try.pinned (OpenSpec.ofChange bumpBlobCapsSpec)

/-- ITS FALSE NEIGHBOUR: 'it returns false'. Refute it at one input. -/
def bumpBlobCapsWrong : ChangeSpec := { name := "bumpBlobCaps", fn := fun _ => fun
  | [d] => { results := [.lit (.bool false)], args := [d] }
  | _ => none }
def BumpBlobCapsWrongFalsely : Prop := bumpBlobCapsRow.holds Try.pinned (OpenSpec.ofChange bumpBlobCapsWrong)

/-- 'tarnlaw14.ChainAdds': WHATEVER THE INPUT: true; the input reads as it did. -/
def chainAddsSpec : ChangeSpec := { name := "chainAdds", fn := fun _ => fun
  | [d] => { results := [.lit (.bool true)], args := [d] }
  | _ => none }
def chainAddsRow : OpenClaim := { program := "ytgdopacmdjcgfaa", sum := "7f51ead0eab2ca16cef3cf07d2f81ebdb6ae33339bfe69057d790b0a2260fef0", func := "tarn/tarnlaw14.ChainAdds", spec := "chainAdds", inPlace := ["math/bits.Add64"], apart := false }
def ChainAddsSaid : Prop := chainAddsRow.holds Try.pinned (OpenSpec.ofChange chainAddsSpec)

/-- ITS FALSE NEIGHBOUR: 'it returns false'. Refute it at one input. -/
def chainAddsWrong : ChangeSpec := { name := "chainAdds", fn := fun _ => fun
  | [d] => { results := [.lit (.bool false)], args := [d] }
  | _ => none }
def ChainAddsWrongFalsely : Prop := chainAddsRow.holds Try.pinned (OpenSpec.ofChange chainAddsWrong)

/-- 'tarnlaw14.ChainReplaces': WHATEVER THE INPUT: true; the input reads as it did. -/
def chainReplacesSpec : ChangeSpec := { name := "chainReplaces", fn := fun _ => fun
  | [d] => { results := [.lit (.bool true)], args := [d] }
  | _ => none }
def chainReplacesRow : OpenClaim := { program := "ytgdopacmdjcgfaa", sum := "7f51ead0eab2ca16cef3cf07d2f81ebdb6ae33339bfe69057d790b0a2260fef0", func := "tarn/tarnlaw14.ChainReplaces", spec := "chainReplaces", inPlace := ["math/bits.Add64"], apart := false }
def ChainReplacesSaid : Prop := chainReplacesRow.holds Try.pinned (OpenSpec.ofChange chainReplacesSpec)

/-- ITS FALSE NEIGHBOUR: 'it returns false'. Refute it at one input. -/
def chainReplacesWrong : ChangeSpec := { name := "chainReplaces", fn := fun _ => fun
  | [d] => { results := [.lit (.bool false)], args := [d] }
  | _ => none }
def ChainReplacesWrongFalsely : Prop := chainReplacesRow.holds Try.pinned (OpenSpec.ofChange chainReplacesWrong)

/-- 'tarnlaw14.ChainSpents': WHATEVER THE INPUT: true; the input reads as it did. -/
def chainSpentsSpec : ChangeSpec := { name := "chainSpents", fn := fun _ => fun
  | [d] => { results := [.lit (.bool true)], args := [d] }
  | _ => none }
def chainSpentsRow : OpenClaim := { program := "ytgdopacmdjcgfaa", sum := "7f51ead0eab2ca16cef3cf07d2f81ebdb6ae33339bfe69057d790b0a2260fef0", func := "tarn/tarnlaw14.ChainSpents", spec := "chainSpents", inPlace := ["math/bits.Add64"], apart := false }
def ChainSpentsSaid : Prop := chainSpentsRow.holds Try.pinned (OpenSpec.ofChange chainSpentsSpec)

/-- ITS FALSE NEIGHBOUR: 'it returns false'. Refute it at one input. -/
def chainSpentsWrong : ChangeSpec := { name := "chainSpents", fn := fun _ => fun
  | [d] => { results := [.lit (.bool false)], args := [d] }
  | _ => none }
def ChainSpentsWrongFalsely : Prop := chainSpentsRow.holds Try.pinned (OpenSpec.ofChange chainSpentsWrong)

/-- 'tarnlaw14.ChainGaps': WHATEVER THE INPUT: true; the input reads as it did. -/
def chainGapsSpec : ChangeSpec := { name := "chainGaps", fn := fun _ => fun
  | [d] => { results := [.lit (.bool true)], args := [d] }
  | _ => none }
def chainGapsRow : OpenClaim := { program := "ytgdopacmdjcgfaa", sum := "7f51ead0eab2ca16cef3cf07d2f81ebdb6ae33339bfe69057d790b0a2260fef0", func := "tarn/tarnlaw14.ChainGaps", spec := "chainGaps", inPlace := ["math/bits.Add64"], apart := false }
def ChainGapsSaid : Prop := chainGapsRow.holds Try.pinned (OpenSpec.ofChange chainGapsSpec)

/-- ITS FALSE NEIGHBOUR: 'it returns false'. Refute it at one input. -/
def chainGapsWrong : ChangeSpec := { name := "chainGaps", fn := fun _ => fun
  | [d] => { results := [.lit (.bool false)], args := [d] }
  | _ => none }
def ChainGapsWrongFalsely : Prop := chainGapsRow.holds Try.pinned (OpenSpec.ofChange chainGapsWrong)

/-- 'tarnlaw14.ChainCuts': WHATEVER THE INPUT: true; the input reads as it did. -/
def chainCutsSpec : ChangeSpec := { name := "chainCuts", fn := fun _ => fun
  | [d] => { results := [.lit (.bool true)], args := [d] }
  | _ => none }
def chainCutsRow : OpenClaim := { program := "ytgdopacmdjcgfaa", sum := "7f51ead0eab2ca16cef3cf07d2f81ebdb6ae33339bfe69057d790b0a2260fef0", func := "tarn/tarnlaw14.ChainCuts", spec := "chainCuts", inPlace := ["math/bits.Add64"], apart := false }
def ChainCutsSaid : Prop := chainCutsRow.holds Try.pinned (OpenSpec.ofChange chainCutsSpec)

/-- ITS FALSE NEIGHBOUR: 'it returns false'. Refute it at one input. -/
def chainCutsWrong : ChangeSpec := { name := "chainCuts", fn := fun _ => fun
  | [d] => { results := [.lit (.bool false)], args := [d] }
  | _ => none }
def ChainCutsWrongFalsely : Prop := chainCutsRow.holds Try.pinned (OpenSpec.ofChange chainCutsWrong)

/-- 'tarnlaw14.ChainCovers': WHATEVER THE INPUT: true; the input reads as it did. -/
def chainCoversSpec : ChangeSpec := { name := "chainCovers", fn := fun _ => fun
  | [d] => { results := [.lit (.bool true)], args := [d] }
  | _ => none }
def chainCoversRow : OpenClaim := { program := "ytgdopacmdjcgfaa", sum := "7f51ead0eab2ca16cef3cf07d2f81ebdb6ae33339bfe69057d790b0a2260fef0", func := "tarn/tarnlaw14.ChainCovers", spec := "chainCovers", inPlace := ["math/bits.Add64"], apart := false }
def ChainCoversSaid : Prop := chainCoversRow.holds Try.pinned (OpenSpec.ofChange chainCoversSpec)

/-- ITS FALSE NEIGHBOUR: 'it returns false'. Refute it at one input. -/
def chainCoversWrong : ChangeSpec := { name := "chainCovers", fn := fun _ => fun
  | [d] => { results := [.lit (.bool false)], args := [d] }
  | _ => none }
def ChainCoversWrongFalsely : Prop := chainCoversRow.holds Try.pinned (OpenSpec.ofChange chainCoversWrong)

/-- 'tarnlaw14.ChainAsks': WHATEVER THE INPUT: true; the input reads as it did. -/
def chainAsksSpec : ChangeSpec := { name := "chainAsks", fn := fun _ => fun
  | [d] => { results := [.lit (.bool true)], args := [d] }
  | _ => none }
def chainAsksRow : OpenClaim := { program := "ytgdopacmdjcgfaa", sum := "7f51ead0eab2ca16cef3cf07d2f81ebdb6ae33339bfe69057d790b0a2260fef0", func := "tarn/tarnlaw14.ChainAsks", spec := "chainAsks", inPlace := ["math/bits.Add64"], apart := false }
def ChainAsksSaid : Prop := chainAsksRow.holds Try.pinned (OpenSpec.ofChange chainAsksSpec)

/-- ITS FALSE NEIGHBOUR: 'it returns false'. Refute it at one input. -/
def chainAsksWrong : ChangeSpec := { name := "chainAsks", fn := fun _ => fun
  | [d] => { results := [.lit (.bool false)], args := [d] }
  | _ => none }
def ChainAsksWrongFalsely : Prop := chainAsksRow.holds Try.pinned (OpenSpec.ofChange chainAsksWrong)

/-- 'tarnlaw15.BumpTells': WHATEVER THE INPUT: true; the input reads as it did. -/
def bumpTellsSpec : ChangeSpec := { name := "bumpTells", fn := fun _ => fun
  | [d] => { results := [.lit (.bool true)], args := [d] }
  | _ => none }
def bumpTellsRow : OpenClaim := { program := "ytgdopacmdjcgfaa", sum := "7f51ead0eab2ca16cef3cf07d2f81ebdb6ae33339bfe69057d790b0a2260fef0", func := "tarn/tarnlaw15.BumpTells", spec := "bumpTells", inPlace := ["math/bits.Add64", "internal/bytealg.abigen_runtime_cmpstring"], unfollowed := true, recurses := true, apart := false }
def BumpTellsSaid : Prop := bumpTellsRow.holds Try.pinned (OpenSpec.ofChange bumpTellsSpec)

/-- ITS FALSE NEIGHBOUR: 'it returns false'. Refute it at one input. -/
def bumpTellsWrong : ChangeSpec := { name := "bumpTells", fn := fun _ => fun
  | [d] => { results := [.lit (.bool false)], args := [d] }
  | _ => none }
def BumpTellsWrongFalsely : Prop := bumpTellsRow.holds Try.pinned (OpenSpec.ofChange bumpTellsWrong)

/-- 'tarnlaw15.BumpKeeps': WHATEVER THE INPUT: true; the input reads as it did. -/
def bumpKeepsSpec : ChangeSpec := { name := "bumpKeeps", fn := fun _ => fun
  | [d] => { results := [.lit (.bool true)], args := [d] }
  | _ => none }
def bumpKeepsRow : OpenClaim := { program := "ytgdopacmdjcgfaa", sum := "7f51ead0eab2ca16cef3cf07d2f81ebdb6ae33339bfe69057d790b0a2260fef0", func := "tarn/tarnlaw15.BumpKeeps", spec := "bumpKeeps", inPlace := ["math/bits.Add64", "internal/bytealg.abigen_runtime_cmpstring"], unfollowed := true, recurses := true, apart := false }
def BumpKeepsSaid : Prop := bumpKeepsRow.holds Try.pinned (OpenSpec.ofChange bumpKeepsSpec)

/-- ITS FALSE NEIGHBOUR: 'it returns false'. Refute it at one input. -/
def bumpKeepsWrong : ChangeSpec := { name := "bumpKeeps", fn := fun _ => fun
  | [d] => { results := [.lit (.bool false)], args := [d] }
  | _ => none }
def BumpKeepsWrongFalsely : Prop := bumpKeepsRow.holds Try.pinned (OpenSpec.ofChange bumpKeepsWrong)

/-- 'tarnlaw15.BumpOrders': WHATEVER THE INPUT: true; the input reads as it did. -/
def bumpOrdersSpec : ChangeSpec := { name := "bumpOrders", fn := fun _ => fun
  | [d] => { results := [.lit (.bool true)], args := [d] }
  | _ => none }
def bumpOrdersRow : OpenClaim := { program := "ytgdopacmdjcgfaa", sum := "7f51ead0eab2ca16cef3cf07d2f81ebdb6ae33339bfe69057d790b0a2260fef0", func := "tarn/tarnlaw15.BumpOrders", spec := "bumpOrders", inPlace := ["math/bits.Add64", "internal/bytealg.abigen_runtime_cmpstring"], unfollowed := true, recurses := true, apart := false }
def BumpOrdersSaid : Prop := bumpOrdersRow.holds Try.pinned (OpenSpec.ofChange bumpOrdersSpec)

/-- ITS FALSE NEIGHBOUR: 'it returns false'. Refute it at one input. -/
def bumpOrdersWrong : ChangeSpec := { name := "bumpOrders", fn := fun _ => fun
  | [d] => { results := [.lit (.bool false)], args := [d] }
  | _ => none }
def BumpOrdersWrongFalsely : Prop := bumpOrdersRow.holds Try.pinned (OpenSpec.ofChange bumpOrdersWrong)

/- THE SECOND FORM. 'bulk': how many values and letters a reading holds, each counted each time it is reached (what is shared counts as often as it is met; a slice's spare places count too). A statement '..UptoSaid' is the law's where the arguments, and the package variables that the reading takes, are together of bulk at most 1048576: NARROWER than '..Said'. Prove '..Said' where nothing that the law and all that it calls make is longer than what came in: it says more and counts as full. Else prove '..UptoSaid'. A law counts once. -/
mutual
def uptoBulk {H : Type} : DataW H → Nat
  | .lit (.string bytes) => bytes.length + 1
  | .lit _ => 1
  | .nil => 1
  | .ptr d => uptoBulk d + 1
  | .slice elems spare => uptoBulkAll elems + uptoBulkAll spare + 1
  | .agg parts => uptoBulkAll parts + 1
  | .iface _ d => uptoBulk d + 1
  | .map entries => uptoBulkEntries entries + 1
  | .held _ => 1
def uptoBulkAll {H : Type} : List (DataW H) → Nat
  | [] => 0
  | d :: r => uptoBulk d + uptoBulkAll r
def uptoBulkEntries {H : Type} : List (Lit × DataW H) → Nat
  | [] => 0
  | x :: r => uptoBulkEntry x + uptoBulkEntries r
def uptoBulkEntry {H : Type} : Lit × DataW H → Nat
  | (.string bytes, d) => bytes.length + uptoBulk d + 1
  | (_, d) => uptoBulk d + 1
 end
def uptoSmall : (H : Type) → List (DataW H) → Bool := fun _ ds => decide (uptoBulkAll ds ≤ 1048576)
def OpenSpec.upto (s : _root_.Go.ChangeSpec) : _root_.Go.OpenSpec := { _root_.Go.OpenSpec.ofChange s with cond := some uptoSmall }

/-- 'tarnlaw15.BumpTips', WHERE WHAT IT READS IS OF BULK AT MOST 1048576: true; the input reads as it did. -/
def bumpTipsUptoRow : OpenClaim := { program := "ytgdopacmdjcgfaa", sum := "7f51ead0eab2ca16cef3cf07d2f81ebdb6ae33339bfe69057d790b0a2260fef0", func := "tarn/tarnlaw15.BumpTips", spec := "bumpTips", inPlace := ["math/bits.Add64"], apart := false, narrowed := true }
def BumpTipsUptoSaid : Prop := bumpTipsUptoRow.holds Try.pinned (OpenSpec.upto bumpTipsSpec)

/-- 'tarnlaw15.BumpCaps', WHERE WHAT IT READS IS OF BULK AT MOST 1048576: true; the input reads as it did. -/
def bumpCapsUptoRow : OpenClaim := { program := "ytgdopacmdjcgfaa", sum := "7f51ead0eab2ca16cef3cf07d2f81ebdb6ae33339bfe69057d790b0a2260fef0", func := "tarn/tarnlaw15.BumpCaps", spec := "bumpCaps", inPlace := ["math/bits.Add64"], apart := false, narrowed := true }
def BumpCapsUptoSaid : Prop := bumpCapsUptoRow.holds Try.pinned (OpenSpec.upto bumpCapsSpec)

/-- 'tarnlaw15.BumpBlobCaps', WHERE WHAT IT READS IS OF BULK AT MOST 1048576: true; the input reads as it did. -/
def bumpBlobCapsUptoRow : OpenClaim := { program := "ytgdopacmdjcgfaa", sum := "7f51ead0eab2ca16cef3cf07d2f81ebdb6ae33339bfe69057d790b0a2260fef0", func := "tarn/tarnlaw15.BumpBlobCaps", spec := "bumpBlobCaps", inPlace := ["math/bits.Add64"], apart := false, narrowed := true }
def BumpBlobCapsUptoSaid : Prop := bumpBlobCapsUptoRow.holds Try.pinned (OpenSpec.upto bumpBlobCapsSpec)

/-- 'tarnlaw14.ChainAdds', WHERE WHAT IT READS IS OF BULK AT MOST 1048576: true; the input reads as it did. -/
def chainAddsUptoRow : OpenClaim := { program := "ytgdopacmdjcgfaa", sum := "7f51ead0eab2ca16cef3cf07d2f81ebdb6ae33339bfe69057d790b0a2260fef0", func := "tarn/tarnlaw14.ChainAdds", spec := "chainAdds", inPlace := ["math/bits.Add64"], apart := false, narrowed := true }
def ChainAddsUptoSaid : Prop := chainAddsUptoRow.holds Try.pinned (OpenSpec.upto chainAddsSpec)

/-- 'tarnlaw14.ChainReplaces', WHERE WHAT IT READS IS OF BULK AT MOST 1048576: true; the input reads as it did. -/
def chainReplacesUptoRow : OpenClaim := { program := "ytgdopacmdjcgfaa", sum := "7f51ead0eab2ca16cef3cf07d2f81ebdb6ae33339bfe69057d790b0a2260fef0", func := "tarn/tarnlaw14.ChainReplaces", spec := "chainReplaces", inPlace := ["math/bits.Add64"], apart := false, narrowed := true }
def ChainReplacesUptoSaid : Prop := chainReplacesUptoRow.holds Try.pinned (OpenSpec.upto chainReplacesSpec)

/-- 'tarnlaw14.ChainSpents', WHERE WHAT IT READS IS OF BULK AT MOST 1048576: true; the input reads as it did. -/
def chainSpentsUptoRow : OpenClaim := { program := "ytgdopacmdjcgfaa", sum := "7f51ead0eab2ca16cef3cf07d2f81ebdb6ae33339bfe69057d790b0a2260fef0", func := "tarn/tarnlaw14.ChainSpents", spec := "chainSpents", inPlace := ["math/bits.Add64"], apart := false, narrowed := true }
def ChainSpentsUptoSaid : Prop := chainSpentsUptoRow.holds Try.pinned (OpenSpec.upto chainSpentsSpec)

/-- 'tarnlaw14.ChainGaps', WHERE WHAT IT READS IS OF BULK AT MOST 1048576: true; the input reads as it did. -/
def chainGapsUptoRow : OpenClaim := { program := "ytgdopacmdjcgfaa", sum := "7f51ead0eab2ca16cef3cf07d2f81ebdb6ae33339bfe69057d790b0a2260fef0", func := "tarn/tarnlaw14.ChainGaps", spec := "chainGaps", inPlace := ["math/bits.Add64"], apart := false, narrowed := true }
def ChainGapsUptoSaid : Prop := chainGapsUptoRow.holds Try.pinned (OpenSpec.upto chainGapsSpec)

/-- 'tarnlaw14.ChainCuts', WHERE WHAT IT READS IS OF BULK AT MOST 1048576: true; the input reads as it did. -/
def chainCutsUptoRow : OpenClaim := { program := "ytgdopacmdjcgfaa", sum := "7f51ead0eab2ca16cef3cf07d2f81ebdb6ae33339bfe69057d790b0a2260fef0", func := "tarn/tarnlaw14.ChainCuts", spec := "chainCuts", inPlace := ["math/bits.Add64"], apart := false, narrowed := true }
def ChainCutsUptoSaid : Prop := chainCutsUptoRow.holds Try.pinned (OpenSpec.upto chainCutsSpec)

/-- 'tarnlaw14.ChainCovers', WHERE WHAT IT READS IS OF BULK AT MOST 1048576: true; the input reads as it did. -/
def chainCoversUptoRow : OpenClaim := { program := "ytgdopacmdjcgfaa", sum := "7f51ead0eab2ca16cef3cf07d2f81ebdb6ae33339bfe69057d790b0a2260fef0", func := "tarn/tarnlaw14.ChainCovers", spec := "chainCovers", inPlace := ["math/bits.Add64"], apart := false, narrowed := true }
def ChainCoversUptoSaid : Prop := chainCoversUptoRow.holds Try.pinned (OpenSpec.upto chainCoversSpec)

/-- 'tarnlaw14.ChainAsks', WHERE WHAT IT READS IS OF BULK AT MOST 1048576: true; the input reads as it did. -/
def chainAsksUptoRow : OpenClaim := { program := "ytgdopacmdjcgfaa", sum := "7f51ead0eab2ca16cef3cf07d2f81ebdb6ae33339bfe69057d790b0a2260fef0", func := "tarn/tarnlaw14.ChainAsks", spec := "chainAsks", inPlace := ["math/bits.Add64"], apart := false, narrowed := true }
def ChainAsksUptoSaid : Prop := chainAsksUptoRow.holds Try.pinned (OpenSpec.upto chainAsksSpec)

/-- 'tarnlaw15.BumpTells', WHERE WHAT IT READS IS OF BULK AT MOST 1048576: true; the input reads as it did. -/
def bumpTellsUptoRow : OpenClaim := { program := "ytgdopacmdjcgfaa", sum := "7f51ead0eab2ca16cef3cf07d2f81ebdb6ae33339bfe69057d790b0a2260fef0", func := "tarn/tarnlaw15.BumpTells", spec := "bumpTells", inPlace := ["math/bits.Add64", "internal/bytealg.abigen_runtime_cmpstring"], unfollowed := true, recurses := true, apart := false, narrowed := true }
def BumpTellsUptoSaid : Prop := bumpTellsUptoRow.holds Try.pinned (OpenSpec.upto bumpTellsSpec)

/-- 'tarnlaw15.BumpKeeps', WHERE WHAT IT READS IS OF BULK AT MOST 1048576: true; the input reads as it did. -/
def bumpKeepsUptoRow : OpenClaim := { program := "ytgdopacmdjcgfaa", sum := "7f51ead0eab2ca16cef3cf07d2f81ebdb6ae33339bfe69057d790b0a2260fef0", func := "tarn/tarnlaw15.BumpKeeps", spec := "bumpKeeps", inPlace := ["math/bits.Add64", "internal/bytealg.abigen_runtime_cmpstring"], unfollowed := true, recurses := true, apart := false, narrowed := true }
def BumpKeepsUptoSaid : Prop := bumpKeepsUptoRow.holds Try.pinned (OpenSpec.upto bumpKeepsSpec)

/-- 'tarnlaw15.BumpOrders', WHERE WHAT IT READS IS OF BULK AT MOST 1048576: true; the input reads as it did. -/
def bumpOrdersUptoRow : OpenClaim := { program := "ytgdopacmdjcgfaa", sum := "7f51ead0eab2ca16cef3cf07d2f81ebdb6ae33339bfe69057d790b0a2260fef0", func := "tarn/tarnlaw15.BumpOrders", spec := "bumpOrders", inPlace := ["math/bits.Add64", "internal/bytealg.abigen_runtime_cmpstring"], unfollowed := true, recurses := true, apart := false, narrowed := true }
def BumpOrdersUptoSaid : Prop := bumpOrdersUptoRow.holds Try.pinned (OpenSpec.upto bumpOrdersSpec)

end Rows
end Go.Proofs.Ytgdopacmdjcgfaa
