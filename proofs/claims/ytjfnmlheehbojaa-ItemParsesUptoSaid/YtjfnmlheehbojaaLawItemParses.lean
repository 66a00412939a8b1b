/- ItemParses holds: the row of the given statement, out of the contract of the law's function, where what it reads is of bulk at most 1048576. -/
import Derived.Test.YtjfnmlheehbojaaT1
import Derived.Test.YtjfnmlheehbojaaT2
import Derived.Test.YtjfnmlheehbojaaT3
import Derived.Test.YtjfnmlheehbojaaT4
import Derived.Test.YtjfnmlheehbojaaT5
import Derived.Test.YtjfnmlheehbojaaRows
import Derived.WalkKit
import Derived.ProofKit
import Derived.OpenShut
import Derived.ShutString
import Derived.ChangeOld
import Derived.Below
import Derived.SizedLaws
import Derived.JoinedCond
import Derived.Deep.CondSized
namespace Go.Proofs.Ytjfnmlheehbojaa.itemParses
open Go.ChangeShapes Go.WideShapes Go.ChangeAt Go.RowKit
set_option linter.unusedVariables false
theorem own : ownKnob Try.prog.godebug = none := by kernel_rfl
theorem laidOut : laidOutB Try.prog = true := by kernel_rfl
theorem closed : VA.closedB VA.ti [50, 56, 54, 4, 9, 52] = true := by kernel_rfl
theorem call (x : VA.AV) (h : VA.Ty VA.ti 50 x) (hb : x.bulk ≤ 1048576) : VA.Contract Try.prog 16 [x] (.bool true) := VA.law_ItemParses x h hb
theorem upto_sum {H : Type} : ∀ l : List (DataW H), Rows.uptoBulkAll l = (l.map Rows.uptoBulk).sum
  | [] => by simp [Rows.uptoBulkAll]
  | d :: r => by rw [Rows.uptoBulkAll, List.map_cons, List.sum_cons, upto_sum r]
theorem upto_ok {H : Type} : VA.BulkOk (H := H) Rows.uptoBulk where
  one d := by
    cases d with
    | lit l => cases l <;> simp [Rows.uptoBulk]
    | _ => simp [Rows.uptoBulk]
  str bs := by simp [Rows.uptoBulk]
  slice es sp := by simp only [Rows.uptoBulk]; rw [upto_sum es]; omega
  agg ps := by simp only [Rows.uptoBulk]; rw [upto_sum ps]; omega
set_option maxRecDepth 100000 in
theorem lifted (os : Os) (started : os.Started) (H : Type) (enc : TypeId × Value → H) (F : Stop.Interp) :
    ReturnsInHanded {} Try.checked os 16 .any ((Rows.OpenSpec.upto Rows.itemParsesSpec).pre6 enc Try.prog Try.f16 Rows.itemParsesUptoRow.domain false) (((Rows.OpenSpec.upto Rows.itemParsesSpec).at F).post enc Try.prog Try.f16 false true false false) := by
  refine returnsInHanded_of_cond_sized (C := Try.checked) (s := Rows.OpenSpec.upto Rows.itemParsesSpec) (k := Rows.uptoSmall) rfl own started (by kernel_rfl) Try.func16
    (OpenSpec.witness (enc := enc) (C := Try.checked) (s := Rows.OpenSpec.upto Rows.itemParsesSpec) (k := Rows.uptoSmall) rfl false ⟨#[], #[.slice none 0 0], []⟩ 8 (by kernel_rfl) (by kernel_rfl) (by kernel_rfl)
      (x := ([.nil], [], [])) (by kernel_rfl) rfl (by kernel_rfl)) ?_
  intro W base args ds gs before hval0 hW hcnd hk hsz0 _
  have hsz : (DataW.weightsEach Try.prog (Try.f16.params.toList ++ Rows.itemParsesSpec.plain.varTypes Try.prog) (ds ++ gs)).all (· ≤ reachBytes) = true := hsz0
  have hval : ∀ (j : Nat) t v, Try.f16.params[j]? = some t → args[j]? = some v → Value.okWide Try.prog W .any base t v := hval0
  have hW' := hW
  obtain ⟨p, q, hA0, hV, rfl, hfz, hnd⟩ := hW
  have hA : DataW.TrodAll enc Try.prog W 0 (fun _ => true) true Try.f16.params.toList args.toList ds p := hA0
  rw [Try.params16] at hA hval hsz
  obtain ⟨v0, vs0, d0, ds0, p0, q0, hargs, rfl, rfl, h0, r0⟩ := trodAll_cons hA
  obtain ⟨rfl, rfl, rfl⟩ := trodAll_nil r0
  obtain rfl : args = #[v0] := by cases args; simp_all
  obtain ⟨rfl, rfl⟩ := trodVars_none hV
  obtain ⟨a0, len0, cap0, rfl⟩ := okWide_slice Try.underlying50 (hval 0 50 v0 rfl rfl)
  have k0 := h0
  have lt0 : ∀ x ∈ p0, x.block < W.heap.size := by obtain ⟨m, hm⟩ := k0; exact DataW.trod_lt m _ _ _ hm
  have hw0 : (d0.weights Try.prog 50).all (· ≤ reachBytes) = true := VA.weightsEach_get _ _ 0 50 d0 rfl rfl hsz
  obtain ⟨fuel, hfuel⟩ := h0
  have hbd : Rows.uptoBulk d0 ≤ 1048576 := by
    have h : Rows.uptoBulkAll [d0] ≤ 1048576 := of_decide_eq_true hk
    simp only [Rows.uptoBulkAll] at h
    omega
  obtain ⟨x, hx, har, _, hbk⟩ := VA.trod_ty2 upto_ok (fun T h => VA.fitAll_ok VA.fits T h) closed fuel 50 _ d0 p0 (by decide) hfuel hw0
  have har' : VA.AR (fun _ => True) (VA.allCells W) x (.slice a0 len0 cap0) := har
  clear hA0 hval0 hsz0 hsz
  refine ((call x hx (Nat.le_trans hbk hbd)).calls (VA.allCells W) W [(.slice a0 len0 cap0)] [] (VA.allCells_ok W) ⟨[], [], rfl, VA.vrep_imm har', rfl⟩ List.nodup_nil).mono fun e W' ⟨v, J, gs', he, _, _, hF, _, hR, _, _⟩ => ?_
  obtain rfl : v = .bool true := by
    obtain ⟨hv, _⟩ := hR
    cases hv; rfl
  have bel : RowKit.Below W.heap.size W W' := ⟨hF.os, hF.tape, hF.output, hF.size, fun k hk => hF.block k hk (fun h => by cases h)⟩
  subst he
  exact ⟨_, rfl, _, _, _, [], _, [], hW', trodAll_mk1 (shut_bool Try.underlying4 _), (trodAll_cons_mk (Below.trod laidOut (by kernel_rfl) (of_decide_eq_true (by kernel_rfl)) k0 bel lt0) trodAll_mk0), rfl, bel.frame _, fun h => by cases h⟩
theorem over : Rows.itemParsesUptoRow.holds Try.pinned (Rows.OpenSpec.upto Rows.itemParsesSpec) :=
  OpenClaim.holds_of_cond 16 Try.f16 rfl rfl rfl rfl rfl rfl rfl ⟨rfl, rfl, rfl, rfl, rfl⟩ rfl rfl rfl rfl rfl (by kernel_rfl) Try.func16 (by kernel_rfl)
    (of_decide_eq_true (by kernel_rfl)) (by unfold Func.isWrapper; first | (rw [if_pos (by decide +kernel)]; kernel_rfl) | (rw [if_neg (by decide +kernel)]; exact ⟨rfl, rfl⟩))
    (fun os started H enc _ F => lifted os started H enc F)
end Go.Proofs.Ytjfnmlheehbojaa.itemParses
namespace Go.Proofs.Ytjfnmlheehbojaa
/-- The row of the statement. -/
theorem itemParses_holds : Rows.ItemParsesUptoSaid := itemParses.over
#print axioms itemParses_holds
end Go.Proofs.Ytjfnmlheehbojaa
