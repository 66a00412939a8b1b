/- Each: a function that hands an item's items to a loop. -/
import Derived.Test.YtjfnmlheehbojaaVaIter
import Derived.Test.YtjfnmlheehbojaaCItem
import Derived.LoopNIn
namespace Go.Proofs.Ytjfnmlheehbojaa.VA
set_option maxRecDepth 10000
set_option linter.unusedSimpArgs false
set_option linter.unusedVariables false
set_option maxHeartbeats 400000

theorem c_Each (it : ItemD) : Contract Try.prog 60 [it.av] (.ext (cloP 67 it.cells)) := by
  refine contract_of (C := cf 4 [1, 2] (fun _ => [])) (cf_ok _ _ _) (fn := Try.f60) Try.func60 (by kernel_rfl) rfl (by kernel_rfl) (by simp [cf]) (plain1 it.plain) (by decide) (noCell (by kernel_rfl)) ?_
  simp only [go_sem, ↓reduceIte, Nat.reduceLT, Nat.reduceLeDiff, Nat.reduceAdd, Nat.reduceSub, Nat.reduceMul, Nat.reduceEqDiff, Nat.reduceBEq, Nat.reduceMod, Nat.reduceDiv, Int.reduceToNat, reduceCtorEq, Int.reduceLT, Int.reduceLE, Int.reduceGT, Int.reduceGE, Int.reduceAdd, Int.reduceSub, Int.reduceMul, Int.reduceNeg, Int.reduceEq, Int.reduceNe, Int.reduceBNe, Int.reduceBEq, Int.reduceDiv, ItemD.av_eq, ItemD.cells]
  refine finOne ?_ (fun _ e => by cases e)
  show resOf _ _ [.tmp 2] = _
  simp only [go_sem, ↓reduceIte, Nat.reduceLT, Nat.reduceLeDiff, Nat.reduceAdd, Nat.reduceSub, Nat.reduceMul, Nat.reduceEqDiff, Nat.reduceBEq, Nat.reduceMod, Nat.reduceDiv, Int.reduceToNat, reduceCtorEq, Int.reduceLT, Int.reduceLE, Int.reduceGT, Int.reduceGE, Int.reduceAdd, Int.reduceSub, Int.reduceMul, Int.reduceNeg, Int.reduceEq, Int.reduceNe, Int.reduceBNe, Int.reduceBEq, Int.reduceDiv]
/-- What Each hands over. -/
def eachOf (it : ItemD) : List AV := if it.list = true then it.items.map ItemD.av else []
/-- The value of yield. -/
def yP (l : Nat) : Imm → Value → Prop := fun _ v => v = .func (.yield l) #[] #[]
def eachTm (l : Nat) (it : ItemD) (i : Nat) : List (Nat × AV) := [(0, .ext (yP l)), (9, .sl false 3 (it.items.map ItemD.av)), (10, .int .i64 it.items.length), (11, .int .i64 i)]
theorem put_same {a : Act} {t : Nat} {v : Value} (h : a.tmps[t]? = some v) : a.put (some t) v = a := by
  cases a with
  | mk tmps defers =>
    show Act.mk (tmps.setIfInBounds t v) defers = Act.mk tmps defers
    congr 1
    refine Array.ext_getElem? fun i => ?_
    by_cases e : t = i
    · subst e
      have hlt := (Array.getElem?_eq_some_iff.1 h).1
      rw [Array.getElem?_setIfInBounds_self_of_lt hlt]
      exact h.symm
    · rw [Array.getElem?_setIfInBounds_ne e]
theorem eval_tmp {a : Act} {t : Nat} {v : Value} (h : a.tmps[t]? = some v) : a.eval (.tmp t) = v := by
  simp [Act.eval, h]
section
variable {F : Fx} {I : Imm} {own : Nat → Option Loc} {σ : ASt} {a : Act} {w : World}
theorem RI.bool (h : RI F I own σ a w) {t : Nat} {b : Bool} (hl : look σ.tmps t = some (.bool b)) : a.eval (.tmp t) = .bool b := by
  obtain ⟨v, h1, h2⟩ := h.slots (.tmp t) _ hl
  have h2 := (srep_imm rfl).1 h2
  cases h2
  exact eval_tmp h1
theorem RI.val (h : RI F I own σ a w) {t : Nat} {x : AV} (hi : x.isImm = true) (hl : look σ.tmps t = some x) : AR F.mine I x (a.eval (.tmp t)) := by
  obtain ⟨v, h1, h2⟩ := h.slots (.tmp t) _ hl
  rw [eval_tmp h1]
  exact (srep_imm hi).1 h2
end
theorem look_cons {α : Type} {t k : Nat} {x y : α} {r : List (Nat × α)} (h : look ((k, y) :: r) t = some x) : (t = k ∧ x = y) ∨ look r t = some x := by
  unfold look at h
  split at h
  · rename_i e
    cases h
    exact .inl ⟨(by simpa using e), rfl⟩
  · exact .inr h
noncomputable def CE : Cfg := cf 21 [0, 4, 7, 9, 10, 11, 12, 15, 16, 17, 18, 19] (fun _ => [])
theorem iter_each (it : ItemD) (h : it.ok) : Iter Try.prog (cloP 67 it.cells) (eachOf it) := by
  rintro J v ⟨b, rfl, har⟩
  refine ⟨_, _, rfl, fun args w => by simp [go_sem], ?_⟩
  intro l Inv Stop gs I w hI hJ hgs h0 hstep hsstop hround
  have hlen := h.len
  unfold reachBytes at hlen
  have hok : CfgOk CE := cf_ok _ _ _
  have hfix : CE.fix = [] := rfl
  have hn : CE.n = 21 := rfl
  have hP : CE.P = Try.prog := rfl
  refine callsIn_wide.1 (callsIn_of_wp (F := Fence.wide) (n := 0) Try.func67 rfl trivial ?_)
  obtain ⟨R, hR⟩ : ∃ R : Ending → World → Prop, R = fun e w' => ∃ v gs I, e = .returned v ∧ (Inv (eachOf it).length gs I w' ∨ Stop gs I w') := ⟨_, rfl⟩
  rw [← hR]
  obtain ⟨Q, hQ⟩ : ∃ Q, Q = bodyPost Try.prog Try.f67 R := ⟨_, rfl⟩
  rw [← hQ]
  have hout : ∀ a w, ¬ Q .outgrown a w := fun a w e => by
    rw [hQ] at e
    have e : R .outgrown w := e
    rw [hR] at e
    obtain ⟨_, _, _, e, _⟩ := e
    cases e
  have hL0 : ¬ LetsOut Q := fun ⟨a, w, e⟩ => hout a w e
  have fin : ∀ (a : Act) (W : World) gs I', a.defers = [] → (Inv (eachOf it).length gs I' W ∨ Stop gs I' W) → (a.defers = [] ∧ ∃ v, (results Try.f67 a.tmps).run Try.prog W = .ok v W ∧ R (.returned v) W) := fun a W gs I' hd hi =>
    ⟨hd, .tuple #[], run_results (us := []) (by simp [go_sem]), by rw [hR]; exact ⟨_, gs, I', rfl, hi⟩⟩
  have finR : ∀ (a : Act) (W : World) gs I', a.defers = [] → (Inv (eachOf it).length gs I' W ∨ Stop gs I' W) → Q .ret a W := fun a W gs I' hd hi => by rw [hQ]; exact fin a W gs I' hd hi
  have finN : ∀ (a : Act) (W : World) gs I', a.defers = [] → (Inv (eachOf it).length gs I' W ∨ Stop gs I' W) → Q .normal a W := fun a W gs I' hd hi => by rw [hQ]; exact fin a W gs I' hd hi
  clear hQ
  obtain ⟨slv, hslv⟩ : ∃ slv : AV, slv = .sl false 3 [.agg it.cells] := ⟨_, rfl⟩
  have har2 : AR (fun _ => True) I (.sl false 3 [.agg it.cells]) (.slice (some ⟨b, 0, none⟩) 1 1) := (har : AR (fun _ => True) J (.sl false 3 [.agg it.cells]) _).mono (fun _ h => h) hJ
  -- the begin
  obtain ⟨yv, hyv⟩ : ∃ yv : Value, yv = .func (.yield l) #[] #[] := ⟨_, rfl⟩
  obtain ⟨pv, hpv⟩ : ∃ pv : Value, pv = .pointer (some ⟨b, 0, none⟩) := ⟨_, rfl⟩
  rw [← hyv, ← hpv]
  rw [show Try.f67.ntmps - (#[yv] ++ #[pv] : Array Value).size = 19 from by simp]
  obtain ⟨A, hA⟩ : ∃ A : Array Value, A = #[yv] ++ #[pv] ++ Array.replicate 19 undef := ⟨_, rfl⟩
  have hA0 : A[0]? = some yv := by rw [hA]; simp
  have hA1 : A[1]? = some pv := by rw [hA]; simp
  have hAs : A.size = CE.n := by rw [hA, hn]; simp
  rw [← hA]
  have hst : RI (bare CE w I) I (fun _ => none) ⟨[(0, .ext (yP l)), (1, .elt (.sl false 3 [.agg it.cells]) 0 0)], []⟩ { tmps := A, defers := [] } w := by
    have e0 := RI.nil (C := CE) (a := { tmps := A, defers := [] }) hI hfix hAs rfl
    have hm : ∀ t, t < 21 → (bare CE w I).C.may t = true := fun t ht => by
      show (decide (t < CE.n) && !CE.fix.contains t) = true
      rw [hfix, hn]; simp [ht]
    have e1 := e0.put (t := 0) (x := .ext (yP l)) (v := yv) (hm 0 (by decide)) rfl (fun _ _ _ e => by cases e) (fun _ e => by cases e) ((srep_imm rfl).2 (.ext _ I _ (fun _ _ _ e => e) (by rw [hyv]; rfl) hyv))
    rw [put_same hA0] at e1
    have e2 := e1.put (t := 1) (x := .elt (.sl false 3 [.agg it.cells]) 0 0) (v := pv) (hm 1 (by decide)) rfl (fun _ _ _ e => by cases e) (fun _ e => by cases e) ⟨b, 0, 1, 1, har2.any _, hpv⟩
    rw [put_same hA1] at e2
    exact e2
  refine wpIn_seq (wpIn_seq ?_)
  refine reg_in (C := CE) (K := fun τ => τ = ⟨[(0, .ext (yP l)), (1, .elt (.sl false 3 [.agg it.cells]) 0 0), (5, .elt (.sl false 3 [.agg it.cells]) 0 0), (6, .bool it.list), (7, .bool (!it.list))], []⟩) hok (by kernel_rfl) rfl bare_open hst ?_ (fun ⟨a, w, e⟩ => hout a w e) ?_
  · show exec CE (fun _ τ => τ = _) [.ops _ _] .normal _
    simp only [go_sem, ↓reduceIte, Nat.reduceLT, Nat.reduceLeDiff, Nat.reduceAdd, Nat.reduceSub, Nat.reduceMul, Nat.reduceEqDiff, Nat.reduceBEq, Nat.reduceMod, Nat.reduceDiv, Int.reduceToNat, reduceCtorEq, Int.reduceLT, Int.reduceLE, Int.reduceGT, Int.reduceGE, Int.reduceAdd, Int.reduceSub, Int.reduceMul, Int.reduceNeg, Int.reduceEq, Int.reduceNe, Int.reduceBNe, Int.reduceBEq, Int.reduceDiv, CE, ItemD.cells]
  rintro a1 w1 ⟨I1, own1, τ, q1, rfl⟩
  have hd1 : a1.defers = [] := q1.defs.1
  show Code.wpIn _ _ _ _ _ a1 w1
  cases hl : it.list with
  | false =>
    refine wpIn_cond_true (by rw [q1.bool (t := 7) rfl, hl]; rfl) (wpIn_ret ?_)
    refine finR a1 w1 gs I1 hd1 (.inl ?_)
    rw [show (eachOf it).length = 0 by unfold eachOf; rw [hl]; rfl]
    exact hstep 0 gs I w I1 w1 h0 q1.rstep
  | true =>
    have heach : eachOf it = it.items.map ItemD.av := by unfold eachOf; rw [hl]; rfl
    have hel : (eachOf it).length = it.items.length := by rw [heach, List.length_map]
    refine wpIn_cond_false (by rw [q1.bool (t := 7) rfl, hl]; rfl) (wpIn_skip ?_)
    show Code.wpIn _ _ _ _ _ a1 w1
    refine wpIn_seq ?_
    refine reg_in (C := CE) (K := fun τ => look τ.tmps 0 = some (.ext (yP l)) ∧ look τ.tmps 9 = some (.sl false 3 (it.items.map ItemD.av)) ∧ look τ.tmps 10 = some (.int .i64 it.items.length) ∧ look τ.tmps 11 = some (.int .i64 (0 : Nat))) hok (by kernel_rfl) rfl bare_open q1 ?_ (fun ⟨a, w, e⟩ => hout a w e) ?_
    · show exec CE (fun _ τ => look τ.tmps 0 = some (.ext (yP l)) ∧ look τ.tmps 9 = some (.sl false 3 (it.items.map ItemD.av)) ∧ look τ.tmps 10 = some (.int .i64 it.items.length) ∧ look τ.tmps 11 = some (.int .i64 (0 : Nat))) [.ops _ _] .normal _
      simp only [go_sem, ↓reduceIte, Nat.reduceLT, Nat.reduceLeDiff, Nat.reduceAdd, Nat.reduceSub, Nat.reduceMul, Nat.reduceEqDiff, Nat.reduceBEq, Nat.reduceMod, Nat.reduceDiv, Int.reduceToNat, reduceCtorEq, Int.reduceLT, Int.reduceLE, Int.reduceGT, Int.reduceGE, Int.reduceAdd, Int.reduceSub, Int.reduceMul, Int.reduceNeg, Int.reduceEq, Int.reduceNe, Int.reduceBNe, Int.reduceBEq, Int.reduceDiv, CE, ItemD.cells, List.length_map, Int.cast_ofNat_Int]
    rintro a2 w2 ⟨I2, own2, τ, q2, k0, k9, k10, k11⟩
    have heads : ∀ (i : Nat) (a : Act) (w' w0 : World) (I' I0 : Imm) (own : Nat → Option Loc) (τ : ASt), RI (bare CE w0 I0) I' own τ a w' → look τ.tmps 0 = some (.ext (yP l)) → look τ.tmps 9 = some (.sl false 3 (it.items.map ItemD.av)) → look τ.tmps 10 = some (.int .i64 it.items.length) →
        look τ.tmps 11 = some (.int .i64 (i : Nat)) → RI (bare CE w' I') I' (fun _ => none) ⟨eachTm l it i, []⟩ a w' := by
      intro i a w' w0 I' I0 own τ q k0 k9 k10 k11
      refine q.fresh (C := CE) rfl hfix rfl q.size q.defs.1 (Imm.leRefl _) q.imm _ fun t x hx => ?_
      unfold eachTm at hx
      rcases look_cons hx with ⟨rfl, rfl⟩ | hx
      · exact ⟨k0, rfl, rfl⟩
      rcases look_cons hx with ⟨rfl, rfl⟩ | hx
      · exact ⟨k9, rfl, rfl⟩
      rcases look_cons hx with ⟨rfl, rfl⟩ | hx
      · exact ⟨k10, rfl, rfl⟩
      rcases look_cons hx with ⟨rfl, rfl⟩ | hx
      · exact ⟨k11, rfl, rfl⟩
      cases hx
    have hst2 := heads 0 a2 w2 w I2 I own2 τ q2 k0 k9 k10 k11
    have hI2 : Inv 0 gs I2 w2 := hstep 0 gs I w I2 w2 h0 q2.rstep
    have hg2 : ∀ g, g ∈ gs → g < w2.heap.size := fun g hg => Nat.lt_of_lt_of_le (hgs g hg) q2.fr.size
    clear q2 k0 k9 k10 k11 hst q1
    show Code.wpIn _ _ _ _ _ a2 w2
    refine wpIn_block (wpIn_loop_rounds (it.items.length + 1) ?_)
    refine (fun key => key _ 0 gs I2 a2 w2 (by omega) (Nat.zero_le _) hst2 hI2 hg2 : (∀ m i gs I' a w', it.items.length + 1 - i ≤ m → i ≤ it.items.length → RI (bare CE w' I') I' (fun _ => none) ⟨eachTm l it i, []⟩ a w' → Inv i gs I' w' → (∀ g, g ∈ gs → g < w'.heap.size) → Code.roundsIn _ _ _ _ _ m a w') → _) ?_
    intro m
    induction m with
    | zero => intro i gs I' a w' h1 h2; omega
    | succ m ih =>
      intro i gs I' a w' h1 h2 q hi hg
      rw [roundsIn_succ]
      refine wpIn_seq (reg_in (C := CE) (K := fun τ => τ = ⟨[(0, .ext (yP l)), (9, .sl false 3 (it.items.map ItemD.av)), (10, .int .i64 it.items.length), (11, .int .i64 i), (12, .bool (decide ((i : Int) < it.items.length)))], []⟩) hok (by kernel_rfl) rfl bare_open q ?_ (fun ⟨a, w, e⟩ => hout a w e) ?_)
      · show exec CE (fun _ τ => τ = _) [.ops _ _] .normal _
        unfold eachTm
        simp only [go_sem, ↓reduceIte, Nat.reduceLT, Nat.reduceLeDiff, Nat.reduceAdd, Nat.reduceSub, Nat.reduceMul, Nat.reduceEqDiff, Nat.reduceBEq, Nat.reduceMod, Nat.reduceDiv, Int.reduceToNat, reduceCtorEq, Int.reduceLT, Int.reduceLE, Int.reduceGT, Int.reduceGE, Int.reduceAdd, Int.reduceSub, Int.reduceMul, Int.reduceNeg, Int.reduceEq, Int.reduceNe, Int.reduceBNe, Int.reduceBEq, Int.reduceDiv, CE]
      rintro a3 w3 ⟨I3, own3, τ, q3, rfl⟩
      have hd3 : a3.defers = [] := q3.defs.1
      have hi3 : Inv i gs I3 w3 := hstep i gs I' w' I3 w3 hi q3.rstep
      have hg3 : ∀ g, g ∈ gs → g < w3.heap.size := fun g h => Nat.lt_of_lt_of_le (hg g h) q3.fr.size
      refine wpIn_seq ?_
      rcases Decidable.em (i < it.items.length) with hlt | hge
      case inr =>
        have e : i = it.items.length := by omega
        subst e
        refine wpIn_cond_false (by rw [q3.bool (t := 12) rfl]; simp) (wpIn_exit ?_)
        exact finN a3 w3 gs I3 hd3 (.inl (by rw [hel]; exact hi3))
      obtain ⟨x, ex⟩ : ∃ x, it.items[i]? = some x := ⟨_, List.getElem?_eq_getElem hlt⟩
      have hxo := h.all x (List.mem_of_getElem? ex)
      refine wpIn_cond_true (by rw [q3.bool (t := 12) rfl]; simp [hlt]) (wpIn_skip ?_)
      refine wpIn_seq (wpIn_block ?_)
      refine wpIn_seq (reg_in (C := CE) (K := fun τ => τ = ⟨[(0, .ext (yP l)), (4, .var 4 0), (9, .sl false 3 (it.items.map ItemD.av)), (10, .int .i64 it.items.length), (11, .int .i64 i), (12, .bool (decide ((i : Int) < it.items.length))), (13, .elt (.sl false 3 (it.items.map ItemD.av)) i 0), (14, .agg x.cells)], [(4, x.cells)]⟩) hok (by kernel_rfl) rfl bare_open q3 ?_ (fun ⟨a, w, e⟩ => hout a w e) ?_)
      · show exec CE (fun _ τ => τ = _) [.ops _ _] .normal _
        simp only [go_sem, ↓reduceIte, Nat.reduceLT, Nat.reduceLeDiff, Nat.reduceAdd, Nat.reduceSub, Nat.reduceMul, Nat.reduceEqDiff, Nat.reduceBEq, Nat.reduceMod, Nat.reduceDiv, Int.reduceToNat, reduceCtorEq, Int.reduceLT, Int.reduceLE, Int.reduceGT, Int.reduceGE, Int.reduceAdd, Int.reduceSub, Int.reduceMul, Int.reduceNeg, Int.reduceEq, Int.reduceNe, Int.reduceBNe, Int.reduceBEq, Int.reduceDiv, CE, List.length_map, List.getElem?_map, ex, Int.toNat_natCast, ItemD.av_eq]
        repeat with_reducible refine And.intro (by first | omega | (simp only [List.length_cons, List.length_append, List.length_nil, List.length_map, List.length_take, List.length_drop, List.length_set]; omega)) ?_
        simp only [go_sem, ↓reduceIte, Nat.reduceLT, Nat.reduceLeDiff, Nat.reduceAdd, Nat.reduceSub, Nat.reduceMul, Nat.reduceEqDiff, Nat.reduceBEq, Nat.reduceMod, Nat.reduceDiv, Int.reduceToNat, reduceCtorEq, Int.reduceLT, Int.reduceLE, Int.reduceGT, Int.reduceGE, Int.reduceAdd, Int.reduceSub, Int.reduceMul, Int.reduceNeg, Int.reduceEq, Int.reduceNe, Int.reduceBNe, Int.reduceBEq, Int.reduceDiv, CE, cellsI_len]
      rintro a4 w4 ⟨I4, own4, τ, q4, rfl⟩
      refine wpIn_seq (wpIn_region_lit ?_)
      refine op_in (C := CE) (K := fun τ => τ = ⟨[(0, .ext (yP l)), (4, .var 4 0), (9, .sl false 3 (it.items.map ItemD.av)), (10, .int .i64 it.items.length), (11, .int .i64 i), (12, .bool (decide ((i : Int) < it.items.length))), (13, .elt (.sl false 3 (it.items.map ItemD.av)) i 0), (14, .agg x.cells), (15, .ext (yP l))], [(4, x.cells)]⟩) hok (fun c e => by cases e) rfl bare_open q4 ?_ ?_
      · show exec CE (fun _ τ => τ = _) [.ops _ [_]] .normal _
        simp only [go_sem, ↓reduceIte, Nat.reduceLT, Nat.reduceLeDiff, Nat.reduceAdd, Nat.reduceSub, Nat.reduceMul, Nat.reduceEqDiff, Nat.reduceBEq, Nat.reduceMod, Nat.reduceDiv, Int.reduceToNat, reduceCtorEq, Int.reduceLT, Int.reduceLE, Int.reduceGT, Int.reduceGE, Int.reduceAdd, Int.reduceSub, Int.reduceMul, Int.reduceNeg, Int.reduceEq, Int.reduceNe, Int.reduceBNe, Int.reduceBEq, Int.reduceDiv, CE, cellsI_len]
      rintro a5 w5 ⟨I5, own5, τ, q5, rfl⟩
      refine op_in (C := CE) (K := fun τ => τ = ⟨[(0, .ext (yP l)), (4, .var 4 0), (9, .sl false 3 (it.items.map ItemD.av)), (10, .int .i64 it.items.length), (11, .int .i64 i), (12, .bool (decide ((i : Int) < it.items.length))), (13, .elt (.sl false 3 (it.items.map ItemD.av)) i 0), (14, .agg x.cells), (15, .ext (yP l)), (16, .agg x.cells)], [(4, x.cells)]⟩) hok (fun c e => by cases e) rfl bare_open q5 ?_ ?_
      · show exec CE (fun _ τ => τ = _) [.ops _ [_]] .normal _
        simp only [go_sem, ↓reduceIte, Nat.reduceLT, Nat.reduceLeDiff, Nat.reduceAdd, Nat.reduceSub, Nat.reduceMul, Nat.reduceEqDiff, Nat.reduceBEq, Nat.reduceMod, Nat.reduceDiv, Int.reduceToNat, reduceCtorEq, Int.reduceLT, Int.reduceLE, Int.reduceGT, Int.reduceGE, Int.reduceAdd, Int.reduceSub, Int.reduceMul, Int.reduceNeg, Int.reduceEq, Int.reduceNe, Int.reduceBNe, Int.reduceBEq, Int.reduceDiv, CE, ItemD.cells]
      rintro a6 w6 ⟨I6, own6, τ, q6, rfl⟩
      refine op_in (C := CE) (K := fun τ => τ = ⟨[(0, .ext (yP l)), (4, .var 4 0), (9, .sl false 3 (it.items.map ItemD.av)), (10, .int .i64 it.items.length), (11, .int .i64 i), (12, .bool (decide ((i : Int) < it.items.length))), (13, .elt (.sl false 3 (it.items.map ItemD.av)) i 0), (14, .agg x.cells), (15, .ext (yP l)), (16, .agg x.cells), (17, x.av)], [(4, x.cells)]⟩) hok (fun c e => by cases e) rfl bare_open q6 ?_ ?_
      · show exec CE (fun _ τ => τ = _) [.ops _ [_]] .normal _
        simp only [go_sem, ↓reduceIte, Nat.reduceLT, Nat.reduceLeDiff, Nat.reduceAdd, Nat.reduceSub, Nat.reduceMul, Nat.reduceEqDiff, Nat.reduceBEq, Nat.reduceMod, Nat.reduceDiv, Int.reduceToNat, reduceCtorEq, Int.reduceLT, Int.reduceLE, Int.reduceGT, Int.reduceGE, Int.reduceAdd, Int.reduceSub, Int.reduceMul, Int.reduceNeg, Int.reduceEq, Int.reduceNe, Int.reduceBNe, Int.reduceBEq, Int.reduceDiv, CE, cellsI_len]
        have hc := c_copied x hxo
        rw [show [x.av] = [AV.agg x.cells] by rw [x.av_eq]] at hc
        refine ex_call (by exact hc) ?_
        rw [x.av_eq]
        simp only [go_sem, ↓reduceIte, Nat.reduceLT, Nat.reduceLeDiff, Nat.reduceAdd, Nat.reduceSub, Nat.reduceMul, Nat.reduceEqDiff, Nat.reduceBEq, Nat.reduceMod, Nat.reduceDiv, Int.reduceToNat, reduceCtorEq, Int.reduceLT, Int.reduceLE, Int.reduceGT, Int.reduceGE, Int.reduceAdd, Int.reduceSub, Int.reduceMul, Int.reduceNeg, Int.reduceEq, Int.reduceNe, Int.reduceBNe, Int.reduceBEq, Int.reduceDiv, CE, cellsI_len]
      rintro a7 w7 ⟨I7, own7, τ, q7, rfl⟩
      have hd7 : a7.defers = [] := q7.defs.1
      have hi7 : Inv i gs I7 w7 := hstep i gs I' w' I7 w7 hi q7.rstep
      have hg7 : ∀ g, g ∈ gs → g < w7.heap.size := fun g h => Nat.lt_of_lt_of_le (hg g h) q7.fr.size
      have hy : a7.eval (.tmp 15) = .func (.yield l) #[] #[] := by
        have e := q7.val (t := 15) (x := .ext (yP l)) rfl rfl
        cases e with
        | ext p J' v hJ h1 hp => exact hp
      have hxa := (q7.val (t := 17) (x := x.av) (by rw [x.av_eq]; rfl) rfl).any (fun _ => True)
      refine yield_in rfl rfl hy (hround i x.av _ gs I7 w7 (by rw [heach, List.getElem?_map, ex]; rfl) hi7 q7.imm hxa) ?_
      rintro bb w8 ⟨gs8, I8, hs8, hb8⟩
      have q8 : RI (bare CE w8 I8) I8 (fun _ => none) ⟨[(0, .ext (yP l)), (9, .sl false 3 (it.items.map ItemD.av)), (10, .int .i64 it.items.length), (11, .int .i64 i), (18, .bool bb)], []⟩ (a7.put (some 18) (.bool bb)) w8 := by
        have e := q7.fresh (C := CE) (a2 := a7.put (some 18) (.bool bb)) rfl hfix rfl (by show (a7.tmps.setIfInBounds 18 _).size = _; rw [Array.size_setIfInBounds]; exact q7.size) hd7 hs8.le hs8.ok (eachTm l it i) (fun t x hx => by
          have hne : ∀ t, t ≠ 18 → (a7.put (some 18) (.bool bb)).tmps[t]? = a7.tmps[t]? := fun t ht => Array.getElem?_setIfInBounds_ne (Ne.symm ht)
          unfold eachTm at hx
          rcases look_cons hx with ⟨rfl, rfl⟩ | hx
          · exact ⟨rfl, rfl, hne _ (by decide)⟩
          rcases look_cons hx with ⟨rfl, rfl⟩ | hx
          · exact ⟨rfl, rfl, hne _ (by decide)⟩
          rcases look_cons hx with ⟨rfl, rfl⟩ | hx
          · exact ⟨rfl, rfl, hne _ (by decide)⟩
          rcases look_cons hx with ⟨rfl, rfl⟩ | hx
          · exact ⟨rfl, rfl, hne _ (by decide)⟩
          cases hx)
        have hlt : 18 < a7.tmps.size := by rw [q7.size]; exact (by decide : 18 < 21)
        have e2 := e.put (t := 18) (x := .bool bb) (v := .bool bb) rfl rfl (fun _ _ _ e => by cases e) (fun _ e => by cases e) ((srep_imm rfl).2 (.bool _))
        rw [put_same (t := 18) (v := .bool bb) (show (a7.tmps.setIfInBounds 18 _)[18]? = _ from Array.getElem?_setIfInBounds_self_of_lt hlt)] at e2
        exact e2
      refine op_in (C := CE) (K := fun τ => τ = ⟨[(0, .ext (yP l)), (9, .sl false 3 (it.items.map ItemD.av)), (10, .int .i64 it.items.length), (11, .int .i64 i), (18, .bool bb), (19, .bool (!bb))], []⟩) hok (fun c e => by cases e) rfl bare_open q8 ?_ ?_
      · show exec CE (fun _ τ => τ = _) [.ops _ [_]] .normal _
        simp only [go_sem, ↓reduceIte, Nat.reduceLT, Nat.reduceLeDiff, Nat.reduceAdd, Nat.reduceSub, Nat.reduceMul, Nat.reduceEqDiff, Nat.reduceBEq, Nat.reduceMod, Nat.reduceDiv, Int.reduceToNat, reduceCtorEq, Int.reduceLT, Int.reduceLE, Int.reduceGT, Int.reduceGE, Int.reduceAdd, Int.reduceSub, Int.reduceMul, Int.reduceNeg, Int.reduceEq, Int.reduceNe, Int.reduceBNe, Int.reduceBEq, Int.reduceDiv, CE]
      rintro a9 w9 ⟨I9, own9, τ, q9, rfl⟩
      refine wpListIn_nil ?_
      cases bb with
      | false =>
        refine wpIn_cond_true (q9.bool (t := 19) rfl) (wpIn_ret ?_)
        refine finR a9 w9 gs8 I9 q9.defs.1 (.inr ?_)
        rcases hb8 with ⟨e, _⟩ | ⟨_, e⟩
        · cases e
        · exact hsstop gs8 I8 w8 I9 w9 e q9.rstep
      | true =>
        have hi8 : Inv (i + 1) gs8 I8 w8 := by
          rcases hb8 with ⟨_, e⟩ | ⟨e, _⟩
          · exact e
          · cases e
        refine wpIn_cond_false (q9.bool (t := 19) rfl) (wpIn_skip ?_)
        show Code.wpIn _ _ _ _ _ a9 w9
        refine reg_in (C := CE) (K := fun τ => τ = ⟨[(0, .ext (yP l)), (9, .sl false 3 (it.items.map ItemD.av)), (10, .int .i64 it.items.length), (11, .int .i64 (i + 1 : Nat)), (18, .bool true), (19, .bool (!true)), (20, .int .i64 (i + 1 : Nat))], []⟩) hok (by kernel_rfl) rfl bare_open q9 ?_ (fun ⟨a, w, e⟩ => hout a w e) ?_
        · show exec CE (fun _ τ => τ = _) [.ops _ _] .normal _
          rw [← wi64_nat i (by omega)]
          simp only [go_sem, ↓reduceIte, Nat.reduceLT, Nat.reduceLeDiff, Nat.reduceAdd, Nat.reduceSub, Nat.reduceMul, Nat.reduceEqDiff, Nat.reduceBEq, Nat.reduceMod, Nat.reduceDiv, Int.reduceToNat, reduceCtorEq, Int.reduceLT, Int.reduceLE, Int.reduceGT, Int.reduceGE, Int.reduceAdd, Int.reduceSub, Int.reduceMul, Int.reduceNeg, Int.reduceEq, Int.reduceNe, Int.reduceBNe, Int.reduceBEq, Int.reduceDiv, CE]
        rintro aa ww ⟨II, ownn, τ, qq, rfl⟩
        exact ih (i + 1) gs8 II aa ww (by omega) (by omega) (heads (i + 1) aa ww _ _ _ _ _ qq rfl rfl rfl rfl) (hstep _ _ _ _ _ _ hi8 qq.rstep) (fun g hg => Nat.lt_of_lt_of_le (hs8.mine g hg).2 qq.fr.size)
end Go.Proofs.Ytjfnmlheehbojaa.VA
