/-
  No cell of these rows narrows 'for every input' (looked for: loops, veiled, ifaces, maps, wideKeys, modest, calm, conditions, laid).
  DERIVED. THE GIVEN ROWS OF THIS SEAT. 10 by the template 'for every input the law returns true; each argument reads behind the call as it read before'; 0 by the template 'total and deterministic' (their statements: YtpepfhbfooeoeaaTotals.lean).
  GIVEN WITH THE SEED: the statements are not yours to turn. If you find one false, say at which input.
  Laid BY PROGRAM, IN A SANDBOX (cutbox-rows.mjs): the forced cells as the released guide's own fill.sh prints them over the translation 5b99434aee855872… (all of the seat's roots in one cut). By AI agents, Wed Nov 11 2026. No macro, syntax, notation, axiom, sorry.
-/
import Derived.Test.YtpepfhbfooeoeaaChecked
import GoSem.Claim
import GoSem.ClaimJoined
import GoSem.ClaimMapViews
import Derived.JoinedTies
import Derived.KernelRfl
namespace Go.Proofs.Ytpepfhbfooeoeaa
/- THE CELL 'sum', in the pinned program and in every row, IS THE sha256 OF THE DUMP (.gsa) THAT YtpepfhbfooeoeaaProg.lean LOADS. Nothing in Lean hashes anything: it is a label: what it is worth is what the hold of that sum in a sandbox is worth. -/
noncomputable def Try.pinned : Pinned := { name := "ytpepfhbfooeoeaa", sum := "5b99434aee85587233757e2ec545c06174d0138b83d5f35e3198b9968d2bb372", checked := Try.checked }
namespace Rows
def none {H : Type} : Left H := { results := [], args := [] }

/-- 'tarnlaw15.BumpTells': WHATEVER THE INPUT: true; the input reads as it did. -/
def bumpTellsSpec : ChangeSpec := { name := "bumpTells", fn := fun _ => fun
  | [d] => { results := [.lit (.bool true)], args := [d] }
  | _ => none }
def bumpTellsRow : OpenClaim := { program := "ytpepfhbfooeoeaa", sum := "5b99434aee85587233757e2ec545c06174d0138b83d5f35e3198b9968d2bb372", func := "tarn/tarnlaw15.BumpTells", spec := "bumpTells", inPlace := ["math/bits.Add64", "internal/bytealg.abigen_runtime_cmpstring"], unfollowed := true, recurses := true, apart := false }
def BumpTellsSaid : Prop := bumpTellsRow.holds Try.pinned (OpenSpec.ofChange bumpTellsSpec)

/-- ITS FALSE NEIGHBOUR: 'it returns false'. Refute it at one input. -/
def bumpTellsWrong : ChangeSpec := { name := "bumpTells", fn := fun _ => fun
  | [d] => { results := [.lit (.bool false)], args := [d] }
  | _ => none }
def BumpTellsWrongFalsely : Prop := bumpTellsRow.holds Try.pinned (OpenSpec.ofChange bumpTellsWrong)

/-- 'tarnlaw15.BumpKeeps': WHATEVER THE INPUT: true; the input reads as it did. -/
def bumpKeepsSpec : ChangeSpec := { name := "bumpKeeps", fn := fun _ => fun
  | [d] => { results := [.lit (.bool true)], args := [d] }
  | _ => none }
def bumpKeepsRow : OpenClaim := { program := "ytpepfhbfooeoeaa", sum := "5b99434aee85587233757e2ec545c06174d0138b83d5f35e3198b9968d2bb372", func := "tarn/tarnlaw15.BumpKeeps", spec := "bumpKeeps", inPlace := ["math/bits.Add64", "internal/bytealg.abigen_runtime_cmpstring"], unfollowed := true, recurses := true, apart := false }
def BumpKeepsSaid : Prop := bumpKeepsRow.holds Try.pinned (OpenSpec.ofChange bumpKeepsSpec)

/-- ITS FALSE NEIGHBOUR: 'it returns false'. Refute it at one input. -/
def bumpKeepsWrong : ChangeSpec := { name := "bumpKeeps", fn := fun _ => fun
  | [d] => { results := [.lit (.bool false)], args := [d] }
  | _ => none }
def BumpKeepsWrongFalsely : Prop := bumpKeepsRow.holds Try.pinned (OpenSpec.ofChange bumpKeepsWrong)

/-- 'tarnlaw15.BumpOrders': WHATEVER THE INPUT: true; the input reads as it did. -/
def bumpOrdersSpec : ChangeSpec := { name := "bumpOrders", fn := fun _ => fun
  | [d] => { results := [.lit (.bool true)], args := [d] }
  | _ => none }
def bumpOrdersRow : OpenClaim := { program := "ytpepfhbfooeoeaa", sum := "5b99434aee85587233757e2ec545c06174d0138b83d5f35e3198b9968d2bb372", func := "tarn/tarnlaw15.BumpOrders", spec := "bumpOrders", inPlace := ["math/bits.Add64", "internal/bytealg.abigen_runtime_cmpstring"], unfollowed := true, recurses := true, apart := false }
def BumpOrdersSaid : Prop := bumpOrdersRow.holds Try.pinned (OpenSpec.ofChange bumpOrdersSpec)

/-- ITS FALSE NEIGHBOUR: 'it returns false'. Refute it at one input. -/
def bumpOrdersWrong : ChangeSpec := { name := "bumpOrders", fn := fun _ => fun
  | [d] => { results := [.lit (.bool false)], args := [d] }
  | _ => none }
def BumpOrdersWrongFalsely : Prop := bumpOrdersRow.holds Try.pinned (OpenSpec.ofChange bumpOrdersWrong)

/-- 'tarnlaw14.ChainAdds': WHATEVER THE INPUT: true; the input reads as it did. -/
def chainAddsSpec : ChangeSpec := { name := "chainAdds", fn := fun _ => fun
  | [d] => { results := [.lit (.bool true)], args := [d] }
  | _ => none }
def chainAddsRow : OpenClaim := { program := "ytpepfhbfooeoeaa", sum := "5b99434aee85587233757e2ec545c06174d0138b83d5f35e3198b9968d2bb372", func := "tarn/tarnlaw14.ChainAdds", spec := "chainAdds", inPlace := ["math/bits.Add64"], apart := false }
def ChainAddsSaid : Prop := chainAddsRow.holds Try.pinned (OpenSpec.ofChange chainAddsSpec)

/-- ITS FALSE NEIGHBOUR: 'it returns false'. Refute it at one input. -/
def chainAddsWrong : ChangeSpec := { name := "chainAdds", fn := fun _ => fun
  | [d] => { results := [.lit (.bool false)], args := [d] }
  | _ => none }
def ChainAddsWrongFalsely : Prop := chainAddsRow.holds Try.pinned (OpenSpec.ofChange chainAddsWrong)

/-- 'tarnlaw14.ChainAsks': WHATEVER THE INPUT: true; the input reads as it did. -/
def chainAsksSpec : ChangeSpec := { name := "chainAsks", fn := fun _ => fun
  | [d] => { results := [.lit (.bool true)], args := [d] }
  | _ => none }
def chainAsksRow : OpenClaim := { program := "ytpepfhbfooeoeaa", sum := "5b99434aee85587233757e2ec545c06174d0138b83d5f35e3198b9968d2bb372", func := "tarn/tarnlaw14.ChainAsks", spec := "chainAsks", inPlace := ["math/bits.Add64"], apart := false }
def ChainAsksSaid : Prop := chainAsksRow.holds Try.pinned (OpenSpec.ofChange chainAsksSpec)

/-- ITS FALSE NEIGHBOUR: 'it returns false'. Refute it at one input. -/
def chainAsksWrong : ChangeSpec := { name := "chainAsks", fn := fun _ => fun
  | [d] => { results := [.lit (.bool false)], args := [d] }
  | _ => none }
def ChainAsksWrongFalsely : Prop := chainAsksRow.holds Try.pinned (OpenSpec.ofChange chainAsksWrong)

/-- 'tarnlaw20.LimboPushes': WHATEVER THE INPUT: true; the input reads as it did. -/
def limboPushesSpec : ChangeSpec := { name := "limboPushes", fn := fun _ => fun
  | [d] => { results := [.lit (.bool true)], args := [d] }
  | _ => none }
def limboPushesRow : OpenClaim := { program := "ytpepfhbfooeoeaa", sum := "5b99434aee85587233757e2ec545c06174d0138b83d5f35e3198b9968d2bb372", func := "tarn/tarnlaw20.LimboPushes", spec := "limboPushes", inPlace := ["math/bits.Add64", "slices.overlaps[tarn/api.Held]"], unfollowed := true, recurses := true, apart := false }
def LimboPushesSaid : Prop := limboPushesRow.holds Try.pinned (OpenSpec.ofChange limboPushesSpec)

/-- ITS FALSE NEIGHBOUR: 'it returns false'. Refute it at one input. -/
def limboPushesWrong : ChangeSpec := { name := "limboPushes", fn := fun _ => fun
  | [d] => { results := [.lit (.bool false)], args := [d] }
  | _ => none }
def LimboPushesWrongFalsely : Prop := limboPushesRow.holds Try.pinned (OpenSpec.ofChange limboPushesWrong)

/-- 'tarnlaw20.LimboPulls': WHATEVER THE INPUT: true; the input reads as it did. -/
def limboPullsSpec : ChangeSpec := { name := "limboPulls", fn := fun _ => fun
  | [d] => { results := [.lit (.bool true)], args := [d] }
  | _ => none }
def limboPullsRow : OpenClaim := { program := "ytpepfhbfooeoeaa", sum := "5b99434aee85587233757e2ec545c06174d0138b83d5f35e3198b9968d2bb372", func := "tarn/tarnlaw20.LimboPulls", spec := "limboPulls", inPlace := ["math/bits.Add64", "slices.overlaps[tarn/api.Held]"], unfollowed := true, recurses := true, apart := false }
def LimboPullsSaid : Prop := limboPullsRow.holds Try.pinned (OpenSpec.ofChange limboPullsSpec)

/-- ITS FALSE NEIGHBOUR: 'it returns false'. Refute it at one input. -/
def limboPullsWrong : ChangeSpec := { name := "limboPulls", fn := fun _ => fun
  | [d] => { results := [.lit (.bool false)], args := [d] }
  | _ => none }
def LimboPullsWrongFalsely : Prop := limboPullsRow.holds Try.pinned (OpenSpec.ofChange limboPullsWrong)

/-- 'tarnlaw20.LimboExact': WHATEVER THE INPUT: true; the input reads as it did. -/
def limboExactSpec : ChangeSpec := { name := "limboExact", fn := fun _ => fun
  | [d] => { results := [.lit (.bool true)], args := [d] }
  | _ => none }
def limboExactRow : OpenClaim := { program := "ytpepfhbfooeoeaa", sum := "5b99434aee85587233757e2ec545c06174d0138b83d5f35e3198b9968d2bb372", func := "tarn/tarnlaw20.LimboExact", spec := "limboExact", inPlace := ["math/bits.Add64", "slices.overlaps[tarn/api.Held]"], unfollowed := true, recurses := true, apart := false }
def LimboExactSaid : Prop := limboExactRow.holds Try.pinned (OpenSpec.ofChange limboExactSpec)

/-- ITS FALSE NEIGHBOUR: 'it returns false'. Refute it at one input. -/
def limboExactWrong : ChangeSpec := { name := "limboExact", fn := fun _ => fun
  | [d] => { results := [.lit (.bool false)], args := [d] }
  | _ => none }
def LimboExactWrongFalsely : Prop := limboExactRow.holds Try.pinned (OpenSpec.ofChange limboExactWrong)

/-- 'tarnlaw20.LimboBack': WHATEVER THE INPUT: true; the input reads as it did. -/
def limboBackSpec : ChangeSpec := { name := "limboBack", fn := fun _ => fun
  | [d] => { results := [.lit (.bool true)], args := [d] }
  | _ => none }
def limboBackRow : OpenClaim := { program := "ytpepfhbfooeoeaa", sum := "5b99434aee85587233757e2ec545c06174d0138b83d5f35e3198b9968d2bb372", func := "tarn/tarnlaw20.LimboBack", spec := "limboBack", inPlace := ["math/bits.Add64", "slices.overlaps[tarn/api.Held]"], unfollowed := true, recurses := true, apart := false }
def LimboBackSaid : Prop := limboBackRow.holds Try.pinned (OpenSpec.ofChange limboBackSpec)

/-- ITS FALSE NEIGHBOUR: 'it returns false'. Refute it at one input. -/
def limboBackWrong : ChangeSpec := { name := "limboBack", fn := fun _ => fun
  | [d] => { results := [.lit (.bool false)], args := [d] }
  | _ => none }
def LimboBackWrongFalsely : Prop := limboBackRow.holds Try.pinned (OpenSpec.ofChange limboBackWrong)

/-- 'tarnlaw20.LimboFinals': WHATEVER THE INPUT: true; the input reads as it did. -/
def limboFinalsSpec : ChangeSpec := { name := "limboFinals", fn := fun _ => fun
  | [d] => { results := [.lit (.bool true)], args := [d] }
  | _ => none }
def limboFinalsRow : OpenClaim := { program := "ytpepfhbfooeoeaa", sum := "5b99434aee85587233757e2ec545c06174d0138b83d5f35e3198b9968d2bb372", func := "tarn/tarnlaw20.LimboFinals", spec := "limboFinals", inPlace := ["math/bits.Add64", "slices.overlaps[tarn/api.Held]"], unfollowed := true, recurses := true, apart := false }
def LimboFinalsSaid : Prop := limboFinalsRow.holds Try.pinned (OpenSpec.ofChange limboFinalsSpec)

/-- ITS FALSE NEIGHBOUR: 'it returns false'. Refute it at one input. -/
def limboFinalsWrong : ChangeSpec := { name := "limboFinals", fn := fun _ => fun
  | [d] => { results := [.lit (.bool false)], args := [d] }
  | _ => none }
def LimboFinalsWrongFalsely : Prop := limboFinalsRow.holds Try.pinned (OpenSpec.ofChange limboFinalsWrong)

/- THE SECOND FORM. 'bulk': how many values and letters a reading holds, each counted each time it is reached (what is shared counts as often as it is met; a slice's spare places count too). A statement '..UptoSaid' is the law's where the arguments, and the package variables that the reading takes, are together of bulk at most 1048576: NARROWER than '..Said'. Prove '..Said' where nothing that the law and all that it calls make is longer than what came in: it says more and counts as full. Else prove '..UptoSaid'. A law counts once. -/
mutual
def uptoBulk {H : Type} : DataW H → Nat
  | .lit (.string bytes) => bytes.length + 1
  | .lit _ => 1
  | .nil => 1
  | .ptr d => uptoBulk d + 1
  | .slice elems spare => uptoBulkAll elems + uptoBulkAll spare + 1
  | .agg parts => uptoBulkAll parts + 1
  | .iface _ d => uptoBulk d + 1
  | .map entries => uptoBulkEntries entries + 1
  | .held _ => 1
def uptoBulkAll {H : Type} : List (DataW H) → Nat
  | [] => 0
  | d :: r => uptoBulk d + uptoBulkAll r
def uptoBulkEntries {H : Type} : List (Lit × DataW H) → Nat
  | [] => 0
  | x :: r => uptoBulkEntry x + uptoBulkEntries r
def uptoBulkEntry {H : Type} : Lit × DataW H → Nat
  | (.string bytes, d) => bytes.length + uptoBulk d + 1
  | (_, d) => uptoBulk d + 1
 end
def uptoSmall : (H : Type) → List (DataW H) → Bool := fun _ ds => decide (uptoBulkAll ds ≤ 1048576)
def OpenSpec.upto (s : _root_.Go.ChangeSpec) : _root_.Go.OpenSpec := { _root_.Go.OpenSpec.ofChange s with cond := some uptoSmall }

/-- 'tarnlaw15.BumpTells', WHERE WHAT IT READS IS OF BULK AT MOST 1048576: true; the input reads as it did. -/
def bumpTellsUptoRow : OpenClaim := { program := "ytpepfhbfooeoeaa", sum := "5b99434aee85587233757e2ec545c06174d0138b83d5f35e3198b9968d2bb372", func := "tarn/tarnlaw15.BumpTells", spec := "bumpTells", inPlace := ["math/bits.Add64", "internal/bytealg.abigen_runtime_cmpstring"], unfollowed := true, recurses := true, apart := false, narrowed := true }
def BumpTellsUptoSaid : Prop := bumpTellsUptoRow.holds Try.pinned (OpenSpec.upto bumpTellsSpec)

/-- 'tarnlaw15.BumpKeeps', WHERE WHAT IT READS IS OF BULK AT MOST 1048576: true; the input reads as it did. -/
def bumpKeepsUptoRow : OpenClaim := { program := "ytpepfhbfooeoeaa", sum := "5b99434aee85587233757e2ec545c06174d0138b83d5f35e3198b9968d2bb372", func := "tarn/tarnlaw15.BumpKeeps", spec := "bumpKeeps", inPlace := ["math/bits.Add64", "internal/bytealg.abigen_runtime_cmpstring"], unfollowed := true, recurses := true, apart := false, narrowed := true }
def BumpKeepsUptoSaid : Prop := bumpKeepsUptoRow.holds Try.pinned (OpenSpec.upto bumpKeepsSpec)

/-- 'tarnlaw15.BumpOrders', WHERE WHAT IT READS IS OF BULK AT MOST 1048576: true; the input reads as it did. -/
def bumpOrdersUptoRow : OpenClaim := { program := "ytpepfhbfooeoeaa", sum := "5b99434aee85587233757e2ec545c06174d0138b83d5f35e3198b9968d2bb372", func := "tarn/tarnlaw15.BumpOrders", spec := "bumpOrders", inPlace := ["math/bits.Add64", "internal/bytealg.abigen_runtime_cmpstring"], unfollowed := true, recurses := true, apart := false, narrowed := true }
def BumpOrdersUptoSaid : Prop := bumpOrdersUptoRow.holds Try.pinned (OpenSpec.upto bumpOrdersSpec)

/-- 'tarnlaw14.ChainAdds', WHERE WHAT IT READS IS OF BULK AT MOST 1048576: true; the input reads as it did. -/
def chainAddsUptoRow : OpenClaim := { program := "ytpepfhbfooeoeaa", sum := "5b99434aee85587233757e2ec545c06174d0138b83d5f35e3198b9968d2bb372", func := "tarn/tarnlaw14.ChainAdds", spec := "chainAdds", inPlace := ["math/bits.Add64"], apart := false, narrowed := true }
def ChainAddsUptoSaid : Prop := chainAddsUptoRow.holds Try.pinned (OpenSpec.upto chainAddsSpec)

/-- 'tarnlaw14.ChainAsks', WHERE WHAT IT READS IS OF BULK AT MOST 1048576: true; the input reads as it did. -/
def chainAsksUptoRow : OpenClaim := { program := "ytpepfhbfooeoeaa", sum := "5b99434aee85587233757e2ec545c06174d0138b83d5f35e3198b9968d2bb372", func := "tarn/tarnlaw14.ChainAsks", spec := "chainAsks", inPlace := ["math/bits.Add64"], apart := false, narrowed := true }
def ChainAsksUptoSaid : Prop := chainAsksUptoRow.holds Try.pinned (OpenSpec.upto chainAsksSpec)

/-- 'tarnlaw20.LimboPushes', WHERE WHAT IT READS IS OF BULK AT MOST 1048576: true; the input reads as it did. -/
def limboPushesUptoRow : OpenClaim := { program := "ytpepfhbfooeoeaa", sum := "5b99434aee85587233757e2ec545c06174d0138b83d5f35e3198b9968d2bb372", func := "tarn/tarnlaw20.LimboPushes", spec := "limboPushes", inPlace := ["math/bits.Add64", "slices.overlaps[tarn/api.Held]"], unfollowed := true, recurses := true, apart := false, narrowed := true }
def LimboPushesUptoSaid : Prop := limboPushesUptoRow.holds Try.pinned (OpenSpec.upto limboPushesSpec)

/-- 'tarnlaw20.LimboPulls', WHERE WHAT IT READS IS OF BULK AT MOST 1048576: true; the input reads as it did. -/
def limboPullsUptoRow : OpenClaim := { program := "ytpepfhbfooeoeaa", sum := "5b99434aee85587233757e2ec545c06174d0138b83d5f35e3198b9968d2bb372", func := "tarn/tarnlaw20.LimboPulls", spec := "limboPulls", inPlace := ["math/bits.Add64", "slices.overlaps[tarn/api.Held]"], unfollowed := true, recurses := true, apart := false, narrowed := true }
def LimboPullsUptoSaid : Prop := limboPullsUptoRow.holds Try.pinned (OpenSpec.upto limboPullsSpec)

/-- 'tarnlaw20.LimboExact', WHERE WHAT IT READS IS OF BULK AT MOST 1048576: true; the input reads as it did. -/
def limboExactUptoRow : OpenClaim := { program := "ytpepfhbfooeoeaa", sum := "5b99434aee85587233757e2ec545c06174d0138b83d5f35e3198b9968d2bb372", func := "tarn/tarnlaw20.LimboExact", spec := "limboExact", inPlace := ["math/bits.Add64", "slices.overlaps[tarn/api.Held]"], unfollowed := true, recurses := true, apart := false, narrowed := true }
def LimboExactUptoSaid : Prop := limboExactUptoRow.holds Try.pinned (OpenSpec.upto limboExactSpec)

/-- 'tarnlaw20.LimboBack', WHERE WHAT IT READS IS OF BULK AT MOST 1048576: true; the input reads as it did. -/
def limboBackUptoRow : OpenClaim := { program := "ytpepfhbfooeoeaa", sum := "5b99434aee85587233757e2ec545c06174d0138b83d5f35e3198b9968d2bb372", func := "tarn/tarnlaw20.LimboBack", spec := "limboBack", inPlace := ["math/bits.Add64", "slices.overlaps[tarn/api.Held]"], unfollowed := true, recurses := true, apart := false, narrowed := true }
def LimboBackUptoSaid : Prop := limboBackUptoRow.holds Try.pinned (OpenSpec.upto limboBackSpec)

/-- 'tarnlaw20.LimboFinals', WHERE WHAT IT READS IS OF BULK AT MOST 1048576: true; the input reads as it did. -/
def limboFinalsUptoRow : OpenClaim := { program := "ytpepfhbfooeoeaa", sum := "5b99434aee85587233757e2ec545c06174d0138b83d5f35e3198b9968d2bb372", func := "tarn/tarnlaw20.LimboFinals", spec := "limboFinals", inPlace := ["math/bits.Add64", "slices.overlaps[tarn/api.Held]"], unfollowed := true, recurses := true, apart := false, narrowed := true }
def LimboFinalsUptoSaid : Prop := limboFinalsUptoRow.holds Try.pinned (OpenSpec.upto limboFinalsSpec)

end Rows
end Go.Proofs.Ytpepfhbfooeoeaa
