/- ItemBack holds: the row of the given statement, out of the contract of the law's function, with no condition. -/
import Derived.Test.YtmngjlgeojbghaaT1
import Derived.Test.YtmngjlgeojbghaaT2
import Derived.Test.YtmngjlgeojbghaaT3
import Derived.Test.YtmngjlgeojbghaaT4
import Derived.Test.YtmngjlgeojbghaaT5
import Derived.Test.YtmngjlgeojbghaaRows
import Derived.WalkKit
import Derived.ProofKit
import Derived.OpenShut
import Derived.ShutString
import Derived.ChangeOld
import Derived.Below
import Derived.SizedLaws
namespace Go.Proofs.Ytmngjlgeojbghaa.itemBack
open Go.ChangeShapes Go.WideShapes Go.ChangeAt Go.RowKit
set_option linter.unusedVariables false
theorem own : ownKnob Try.prog.godebug = none := by kernel_rfl
theorem laidOut : laidOutB Try.prog = true := by kernel_rfl
theorem closed : VA.closedB VA.ti [22, 28, 26, 4, 9, 24] = true := by kernel_rfl
theorem call (x : VA.AV) (h : VA.Ty VA.ti 22 x) : VA.Contract Try.prog 3 [x] (.bool true) := VA.law_ItemBack x h
set_option maxRecDepth 100000 in
theorem lifted (os : Os) (started : os.Started) (H : Type) (enc : TypeId × Value → H) :
    ReturnsInHanded {} Try.checked os 3 .any (Rows.itemBackSpec.pre6 enc Try.prog Try.f3 Rows.itemBackRow.domain false) (Rows.itemBackSpec.post enc Try.prog Try.f3 false true false false) := by
  refine returnsInHanded_of_change_sized (C := Try.checked) own started (by kernel_rfl) Try.func3
    (ChangeSpec.witness6 (enc := enc) (C := Try.checked) false ⟨#[], #[.slice none 0 0], []⟩ 8 (by kernel_rfl) (by kernel_rfl) (by kernel_rfl) (by kernel_rfl)) ?_
  intro W base args ds gs before hval0 hW hcnd hsz0 _
  have hsz : (DataW.weightsEach Try.prog (Try.f3.params.toList ++ Rows.itemBackSpec.plain.varTypes Try.prog) (ds ++ gs)).all (· ≤ reachBytes) = true := hsz0
  have hval : ∀ (j : Nat) t v, Try.f3.params[j]? = some t → args[j]? = some v → Value.okWide Try.prog W .any base t v := hval0
  have hW' := hW
  obtain ⟨p, q, hA0, hV, rfl, hfz, hnd⟩ := hW
  have hA : DataW.TrodAll enc Try.prog W 0 (fun _ => true) true Try.f3.params.toList args.toList ds p := hA0
  rw [Try.params3] at hA hval hsz
  obtain ⟨v0, vs0, d0, ds0, p0, q0, hargs, rfl, rfl, h0, r0⟩ := trodAll_cons hA
  obtain ⟨rfl, rfl, rfl⟩ := trodAll_nil r0
  obtain rfl : args = #[v0] := by cases args; simp_all
  obtain ⟨rfl, rfl⟩ := trodVars_none hV
  obtain ⟨a0, len0, cap0, rfl⟩ := okWide_slice Try.underlying22 (hval 0 22 v0 rfl rfl)
  have k0 := h0
  have lt0 : ∀ x ∈ p0, x.block < W.heap.size := by obtain ⟨m, hm⟩ := k0; exact DataW.trod_lt m _ _ _ hm
  have hw0 : (d0.weights Try.prog 22).all (· ≤ reachBytes) = true := VA.weightsEach_get _ _ 0 22 d0 rfl rfl hsz
  obtain ⟨fuel, hfuel⟩ := h0
  obtain ⟨x, hx, har, _⟩ := VA.trod_ty (fun T h => VA.fitAll_ok VA.fits T h) closed fuel 22 _ d0 p0 (by decide) hfuel hw0
  have har' : VA.AR (fun _ => True) (VA.allCells W) x (.slice a0 len0 cap0) := har
  clear hA0 hval0 hsz0 hsz
  refine ((call x hx).calls (VA.allCells W) W [(.slice a0 len0 cap0)] [] (VA.allCells_ok W) ⟨[], [], rfl, VA.vrep_imm har', rfl⟩ List.nodup_nil).mono fun e W' ⟨v, J, gs', he, _, _, hF, _, hR, _, _⟩ => ?_
  obtain rfl : v = .bool true := by
    obtain ⟨hv, _⟩ := hR
    cases hv; rfl
  have bel : RowKit.Below W.heap.size W W' := ⟨hF.os, hF.tape, hF.output, hF.size, fun k hk => hF.block k hk (fun h => by cases h)⟩
  subst he
  exact ⟨_, rfl, _, _, _, [], _, [], hW', trodAll_mk1 (shut_bool Try.underlying4 _), (trodAll_cons_mk (Below.trod laidOut (by kernel_rfl) (of_decide_eq_true (by kernel_rfl)) k0 bel lt0) trodAll_mk0), rfl, bel.frame _, fun h => by cases h⟩
theorem over : Rows.itemBackRow.holds Try.pinned (OpenSpec.ofChange Rows.itemBackSpec) :=
  OpenClaim.holds_of_wide 3 Try.f3 rfl rfl rfl rfl rfl rfl rfl ⟨rfl, rfl, rfl, rfl, rfl⟩ rfl rfl rfl rfl rfl (by kernel_rfl) Try.func3 (by kernel_rfl)
    (of_decide_eq_true (by kernel_rfl)) (by unfold Func.isWrapper; first | (rw [if_pos (by decide +kernel)]; kernel_rfl) | (rw [if_neg (by decide +kernel)]; exact ⟨rfl, rfl⟩))
    (fun os started H enc _ => lifted os started H enc)
end Go.Proofs.Ytmngjlgeojbghaa.itemBack
namespace Go.Proofs.Ytmngjlgeojbghaa
/-- The row of the statement. -/
theorem itemBack_holds : Rows.ItemBackSaid := itemBack.over
#print axioms itemBack_holds
end Go.Proofs.Ytmngjlgeojbghaa
