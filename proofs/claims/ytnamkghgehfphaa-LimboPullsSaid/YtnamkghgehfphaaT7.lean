/- LimboPulls: the law. -/
import Derived.Test.YtnamkghgehfphaaT1
import Derived.Test.YtnamkghgehfphaaT2
import Derived.Test.YtnamkghgehfphaaT3
import Derived.Test.YtnamkghgehfphaaT4
import Derived.Test.YtnamkghgehfphaaT5
import Derived.Test.YtnamkghgehfphaaT6
section
/- LimboPulls: the law. -/
namespace Go.Proofs.Ytnamkghgehfphaa.VA
set_option maxRecDepth 10000
set_option linter.unusedSimpArgs false
set_option linter.unusedVariables false
set_option maxHeartbeats 16000000

theorem place_unique {l : List HeldD} {id : Int} {p q : Nat} (hp : PlaceOf l id p) (hq : PlaceOf l id q) : p = q := by
  rcases Nat.lt_trichotomy p q with h | h | h
  · obtain ⟨x, ex⟩ : ∃ x, l[p]? = some x := ⟨_, List.getElem?_eq_getElem (Nat.lt_of_lt_of_le h hq.1)⟩
    have h1 := hp.2 p x ex
    have h2 := hq.2 p x ex
    omega
  · exact h
  · obtain ⟨x, ex⟩ : ∃ x, l[q]? = some x := ⟨_, List.getElem?_eq_getElem (Nat.lt_of_lt_of_le h hp.1)⟩
    have h1 := hp.2 q x ex
    have h2 := hq.2 q x ex
    omega
theorem sorted_lt' {l : List HeldD} (h : sortedH l) {j k : Nat} {x y : HeldD} (hjk : j < k) (e1 : l[j]? = some x) (e2 : l[k]? = some y) : idTx x.t < idTx y.t :=
  sorted_lt h (k - j - 1) j x y e1 (by rw [show j + (k - j - 1) + 1 = k by omega]; exact e2)
theorem place_at {l : List HeldD} (h : sortedH l) {i : Nat} {x : HeldD} (ex : l[i]? = some x) : PlaceOf l (idTx x.t) i := by
  refine ⟨Nat.le_of_lt (List.getElem?_eq_some_iff.1 ex).1, fun k y ey => ?_⟩
  rcases Nat.lt_trichotomy k i with hk | hk | hk
  · have := sorted_lt' h hk ey ex; omega
  · subst hk; rw [ey] at ex; cases ex; omega
  · have := sorted_lt' h hk ex ey; omega
theorem limbo_iff (l : List HeldD) : limboOk l = true ↔ l.length ≤ 48 ∧ sortedH l ∧ ∀ a ∈ l, heldOk a = true := by
  constructor
  · intro h
    obtain ⟨h1, h2, _⟩ := limbo_sorted h
    refine ⟨h1, h2, fun a ha => ?_⟩
    unfold limboOk at h
    simp only [Bool.and_eq_true] at h
    obtain ⟨k, hk⟩ := List.getElem?_of_mem ha
    have := List.all_eq_true.1 h.2 k (List.mem_range.2 (List.getElem?_eq_some_iff.1 hk).1)
    rw [heldAt_get hk, Bool.and_eq_true] at this
    exact this.1
  · rintro ⟨h1, h2, h3⟩
    rw [limbo_yes, decide_eq_true h1]
    intro k hk
    obtain ⟨x, ex⟩ : ∃ x, l[k]? = some x := ⟨_, List.getElem?_eq_getElem hk⟩
    rw [heldAt_get ex, h3 x (List.mem_of_getElem? ex), Bool.true_and]
    cases k with
    | zero => rfl
    | succ k =>
      obtain ⟨y, ey⟩ : ∃ y, l[k]? = some y := ⟨_, List.getElem?_eq_getElem (by omega)⟩
      simp only [heldAfter, ey]
      exact decide_eq_true (h2 k y x ey ex)
theorem erase_get {l : List HeldD} {i k : Nat} {x : HeldD} (e : (l.eraseIdx i)[k]? = some x) : ∃ j, j ≠ i ∧ l[j]? = some x ∧ (k < i → j = k) ∧ (i ≤ k → j = k + 1) := by
  rw [List.getElem?_eraseIdx] at e
  split at e
  · exact ⟨k, by omega, e, fun _ => rfl, fun _ => by omega⟩
  · exact ⟨k + 1, by omega, e, fun _ => by omega, fun _ => rfl⟩
theorem erase_limbo {l : List HeldD} (h : limboOk l = true) (i : Nat) (hi : i < l.length) : limboOk (l.eraseIdx i) = true := by
  rw [limbo_iff] at h ⊢
  obtain ⟨h1, h2, h3⟩ := h
  refine ⟨by rw [List.length_eraseIdx, if_pos hi]; omega, fun k x y e1 e2 => ?_, fun a ha => h3 a (List.mem_of_mem_eraseIdx ha)⟩
  obtain ⟨j, _, ej, q1, q2⟩ := erase_get e1
  obtain ⟨j', _, ej', q1', q2'⟩ := erase_get e2
  refine sorted_lt' h2 ?_ ej ej'
  rcases Nat.lt_or_ge k i with hk | hk
  · rw [q1 hk]
    rcases Nat.lt_or_ge (k + 1) i with hk' | hk'
    · rw [q1' hk']; omega
    · rw [q2' hk']; omega
  · rw [q2 hk, q2' (by omega)]; omega
theorem pull_at {l : List HeldD} (h : limboOk l = true) {i : Nat} {x : HeldD} (ex : l[i]? = some x) : pullOf l (idTx x.t) = (l.eraseIdx i, x, 0) := by
  obtain ⟨_, hs, _⟩ := limbo_sorted h
  unfold pullOf
  rw [place_unique (place_pos l _ hs) (place_at hs ex), ex]
  show (if idTx x.t = idTx x.t then _ else _) = _
  rw [if_pos rfl]
theorem pull_none {l : List HeldD} (h : limboOk l = true) {i : Nat} {x : HeldD} (ex : l[i]? = some x) : pullOf (l.eraseIdx i) (idTx x.t) = ([], zeroH, 3) := by
  obtain ⟨_, hs, _⟩ := limbo_sorted h
  unfold pullOf
  generalize posOf (l.eraseIdx i) (idTx x.t) = p
  cases e : (l.eraseIdx i)[p]? with
  | none => rfl
  | some y =>
    obtain ⟨j, hj, ej, _⟩ := erase_get e
    show (if idTx y.t = idTx x.t then _ else _) = _
    rw [if_neg]
    intro he
    rcases Nat.lt_or_gt_of_ne hj with hk | hk
    · have := sorted_lt' hs hk ej ex; omega
    · have := sorted_lt' hs hk ex ej; omega
theorem c_Without (l : List HeldD) (i : Nat) (hi : i < l.length) (hl : l.length * 208 ≤ reachBytes) (hok : ∀ a ∈ l, a.ok) : Contract Try.prog 60 [limbo l, .int .i64 i] (.own false 22 ((l.eraseIdx i).map HeldD.av)) := by
  have h1 := c_CopyLimbo (l.take i) (by rw [List.length_take]; unfold reachBytes at *; omega) (fun a ha => hok a (List.mem_of_mem_take ha))
  have h2 := c_CopyLimbo (l.drop (i + 1)) (by rw [List.length_drop]; unfold reachBytes at *; omega) (fun a ha => hok a (List.mem_of_mem_drop ha))
  have he : (l.eraseIdx i).map HeldD.av = (l.take i).map HeldD.av ++ (l.drop (i + 1)).map HeldD.av := by rw [List.eraseIdx_eq_take_drop_succ, List.map_append]
  have w1 : IntKind.i64.wrap ((i : Int) + 1) = ((i + 1 : Nat) : Int) := by unfold reachBytes at hl; rw [IntKind.wrap_i64]; omega
  have t1 : (l.map HeldD.av).take i = (l.take i).map HeldD.av := List.map_take.symm
  have t2 : (l.map HeldD.av).drop (i + 1) = (l.drop (i + 1)).map HeldD.av := List.map_drop.symm
  unfold reachBytes at hl
  refine contract_of (C := cf 17 [0, 1, 4, 5] (fun _ => [])) (cf_ok _ _ _) (fn := Try.f60) Try.func60 (by kernel_rfl) rfl (by kernel_rfl) (by simp [cf]) (plain2 (limbo_plain l) (.int _ _)) (by decide) (noCell (by kernel_rfl)) ?_
  simp only [go_sem, seval, limbo, List.length_map, Int.toNat_natCast]
  refine ⟨⟨⟨by omega, by omega⟩, by omega⟩, ?_⟩
  have e0 : (l.map HeldD.av).take (i - 0) = (l.take i).map HeldD.av := by rw [Nat.sub_zero, t1]
  rw [e0]
  refine ex_call (by exact h1) ?_
  simp only [go_sem, seval, w1, List.length_map, Int.toNat_natCast]
  refine ⟨⟨by omega, by omega⟩, ?_⟩
  have e1 : ((l.map HeldD.av).drop (i + 1)).take (l.length - (i + 1)) = (l.drop (i + 1)).map HeldD.av := by
    rw [t2]
    exact List.take_of_length_le (by rw [List.length_map, List.length_drop]; omega)
  rw [e1]
  refine ex_call (by exact h2) ?_
  simp only [go_sem, seval, List.length_map]
  refine ⟨by rw [List.length_take, List.length_drop]; omega, ?_⟩
  rw [he]
  refine finOne ?_ (fun _ e => by cases e)
  show resOf _ _ [.tmp 4] = _
  simp only [go_sem, seval]
theorem held_ok {l : List HeldD} (h : ∀ a ∈ l, a.ok) (i : Nat) : ∀ a ∈ l.eraseIdx i, a.ok := fun a ha => h a (List.mem_of_mem_eraseIdx ha)
theorem zeroH_ok : zeroH.ok := ⟨by constructor <;> first | decide | (intro a ha; cases ha), by decide⟩
theorem c_LimboPulls (s : Script20) (hok : s.ok) : Contract Try.prog 9 [s.av] (.bool true) := by
  have hHv := c_law20_heavy s hok
  have hL := c_ref16_Limbo s.h hok.hl hok.h
  have hh := hok.hl
  unfold reachBytes at hh
  refine contract_of (C := cf 80 [1, 2, 3, 4, 5, 6, 7, 9, 10, 18, 23, 62, 78] (fun _ => [])) (cf_ok _ _ _) (fn := Try.f9) Try.func9 (by kernel_rfl) rfl (by kernel_rfl) (by simp [cf]) (plain1 (script_plain s)) (by decide) (cellsOk (by kernel_rfl)) ?_
  simp only [go_sem, seval, Script20.av]
  refine ex_call (by exact hHv) ?_
  cases hv : heavy20 s with
  | true =>
    simp only [go_sem, seval]
    refine finOne ?_ (fun _ e => by cases e)
    show resOf _ _ [.tmp 2] = _
    simp only [go_sem, seval]
  | false =>
    simp only [go_sem, seval]
    refine ex_call (by exact hL) ?_
    cases hy : limboOk s.h with
    | false =>
      simp only [go_sem, seval]
      refine finOne ?_ (fun _ e => by cases e)
      show resOf _ _ [.tmp 2] = _
      simp only [go_sem, seval]
    | true =>
      obtain ⟨h48, hs, hva⟩ := limbo_sorted hy
      simp only [go_sem, seval]
      refine ex_iter [1, 3] (fun i : Nat => ⟨[(1, .var 1 0), (3, .int .i64 i)], [(1, [.sl false 22 (s.h.map HeldD.av), .sl false 23 (s.l.map Act20.av)])]⟩) (fun i => i ≤ s.h.length) (fun i => s.h.length - i) 0 ?_ ?_ ?_
      · simp only [ASt.keep, consIf, keepL, keepV, AV.isBot, List.contains_cons, List.contains_nil, Nat.reduceBEq, Bool.or_false, Bool.false_or, Bool.or_true, Bool.true_or, beq_self_eq_true, Bool.false_eq_true, ↓reduceIte, if_false, if_true]
        try rfl
      · exact Nat.zero_le _
      · intro n i hi next
        simp only [go_sem, seval, List.length_map]
        refine ex_br (fun h => ?_) (fun h => ?_)
        · have hlt : i < s.h.length := by simpa using h
          obtain ⟨x, ex⟩ : ∃ x, s.h[i]? = some x := ⟨_, List.getElem?_eq_getElem hlt⟩
          have hxo := hok.h x (List.mem_of_getElem? ex)
          have hxv := hva x (List.mem_of_getElem? ex)
          have hID := c_ref7_ID x.t hxo.t hxv
          have hel : (s.h.eraseIdx i).length * 208 ≤ reachBytes := by rw [List.length_eraseIdx, if_pos hlt]; unfold reachBytes; omega
          have hP := c_limbo_Pull s.h (idTx x.t) hok.hl hok.h hy
          rw [pull_at hy ex] at hP
          have hQ := c_limbo_Pull (s.h.eraseIdx i) (idTx x.t) hel (held_ok hok.h i) (erase_limbo hy i hlt)
          rw [pull_none hy ex] at hQ
          have hE := c_EqHeld x x hxo hxo
          rw [decide_eq_true rfl] at hE
          have hW := c_Without s.h i hlt hok.hl hok.h
          have hEL := c_EqLimbo (s.h.eraseIdx i) (s.h.eraseIdx i) hel hel (held_ok hok.h i) (held_ok hok.h i)
          rw [decide_eq_true rfl] at hEL
          have hEZ := c_EqHeld zeroH zeroH zeroH_ok zeroH_ok
          rw [decide_eq_true rfl] at hEZ
          have hn0 := c_law20_num 0
          have hn3 := c_law20_num 3
          simp only [go_sem, seval, List.length_map, List.getElem?_map, ex, Option.map_some, Int.toNat_natCast, HeldD.av]
          repeat with_reducible refine And.intro (by first | omega | (simp only [List.length_cons, List.length_append, List.length_nil, List.length_map, List.length_take, List.length_drop, List.length_set]; omega)) ?_
          refine ex_call (by exact hID) ?_
          simp only [go_sem, seval]
          refine ex_call (by exact hP) ?_
          simp only [go_sem, seval, HeldD.av]
          refine ex_draw [] [] (.quiet 0 (.one 1 (.quiet 2 (.quiet 3 (.quiet 4 (.quiet 5 (.quiet 6 (.quiet 7 (.quiet 8 (.quiet 9 (.one 10 (.quiet 11 (.quiet 12 (.quiet 13 (.quiet 14 (.quiet 15 (.quiet 16 (.quiet 17 (.one 18 (.one 19 (.quiet 20 (.quiet 21 (.fin))))))))))))))))))))))) (by kernel_rfl) ?_
          simp only [go_sem, seval, ex_ord_two, ex_ord_three]
          refine ex_call (by exact hn0) ?_
          simp only [go_sem, seval, List.length_map, List.getElem?_map, ex, Option.map_some, Int.toNat_natCast, HeldD.av]
          repeat with_reducible refine And.intro (by first | omega | (simp only [List.length_cons, List.length_append, List.length_nil, List.length_map, List.length_take, List.length_drop, List.length_set]; omega)) ?_
          refine ex_call (by exact hE) ?_
          simp only [go_sem, seval]
          refine ex_call (by exact hW) ?_
          simp only [go_sem, seval]
          refine ex_call_dull (.cons (dsl _ _ _) (.cons (dsl _ _ _) .nil)) (by exact hEL) ?_
          simp only [go_sem, seval]
          refine ex_call_dull (.cons (dsl _ _ _) (.cons (.refl _) .nil)) (by exact hQ) ?_
          simp only [go_sem, seval, HeldD.av, List.map_nil]
          refine ex_call (by exact hn3) ?_
          simp only [go_sem, seval, zeroH]
          refine ex_call_dull (.cons (.refl _) (.cons zeroHA_dull .nil)) (by exact hEZ) ?_
          simp only [go_sem, seval]
          refine next (i + 1) _ (by omega) (by omega) ?_
          rw [← wi64_nat i (by omega)]
          simp only [ASt.keep, consIf, keepL, keepV, AV.isBot, List.contains_cons, List.contains_nil, Nat.reduceBEq, Bool.or_false, Bool.false_or, Bool.or_true, Bool.true_or, beq_self_eq_true, Bool.false_eq_true, ↓reduceIte, if_false, if_true]
          try rfl
        · simp only [go_sem, seval]
          refine ex_call (by exact c_law20_wakes) ?_
          simp only [go_sem, seval]
          refine finOne ?_ (fun _ e => by cases e)
          show resOf _ _ [.tmp 2] = _
          simp only [go_sem, seval]
theorem law_LimboPulls (x : AV) (h : Ty ti 76 x) : Contract Try.prog 9 [x] (.bool true) := by
  obtain ⟨s, rfl, hs⟩ := ty_script h
  exact c_LimboPulls s hs
end Go.Proofs.Ytnamkghgehfphaa.VA
end
