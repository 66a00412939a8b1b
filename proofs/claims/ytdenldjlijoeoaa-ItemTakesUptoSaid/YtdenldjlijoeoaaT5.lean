/- Items out of bytes: one item, all of them. Items out of bytes: the page's own. Items out of bytes: the page's answer at the top. Functions that write over the rows of what they are given: what is kept. tarnlaw0.Tx writes over a transaction's rows, and over nothing else. Products of numbers of 256 bits. The page's product, digit by digit. The program's product, limb by limb. -/
import Derived.Test.YtdenldjlijoeoaaT1
import Derived.Test.YtdenldjlijoeoaaT2
import Derived.Test.YtdenldjlijoeoaaT3
import Derived.Test.YtdenldjlijoeoaaT4
import Derived.Deep.LoopGhost
import Derived.WalkKit
section
/- Items out of bytes: one item, all of them. -/
namespace Go.Proofs.Ytdenldjlijoeoaa.VA
set_option maxRecDepth 10000
set_option linter.unusedSimpArgs false
set_option linter.unusedVariables false
set_option maxHeartbeats 16000000

theorem hd_err {s : List UInt8} {e : Nat} (h : hdOf s = .error e) : e = 7 ∨ e = 1 := by
  cases s with
  | nil => cases h; exact .inl rfl
  | cons b t =>
    rw [hd_cons] at h
    split at h
    · cases h
    · unfold hdRest at h
      split at h
      · cases h
      · split at h
        · cases h; exact .inl rfl
        · split at h
          · cases h; exact .inr rfl
          · split at h
            · cases h; exact .inr rfl
            · cases h
theorem hd_bounds {s : List UInt8} {l : Bool} {f n : Nat} (h : hdOf s = .ok (l, f, n)) : f ≤ 6 ∧ n ≤ 65536 ∧ (l = true → 1 ≤ f) := by
  rcases hd_back h with ⟨rfl, rfl, rfl, _⟩ | ⟨h1, h2, h3, h4⟩
  · exact ⟨by omega, by omega, fun e => by cases e⟩
  · have := ahead_le (n := n) (by omega)
    have := ahead_pos n
    exact ⟨by omega, h3, fun _ => by omega⟩
/-- What one tells, at any depth. -/
def oneR (d : Nat) (s : List UInt8) : Except Nat (ItemD × Nat) :=
  match hdOf s with
  | .error e => .error e
  | .ok (l, f, n) =>
    if (l = true ∧ 16 ≤ d) ∨ 65536 < f + n then .error 1
    else if s.length < f + n then .error 7
    else if l = false then (if 0 < f ∧ aloneB ((s.drop f).take n) = true then .error 1 else .ok (.mk false ((s.drop f).take n) [], f + n))
    else match itemsP (d + 1) ((s.drop f).take n) with
      | some xs => .ok (.mk true [] xs, f + n)
      | none => .error 1
theorem one_parse (d : Nat) (s : List UInt8) : match oneR d s with | .ok r => parse d s = .ok r | .error e => ∃ e', parse d s = .error e' ∧ (d < 16 → e' = e) := by
  unfold oneR
  rw [parse]
  cases hh : hdOf s with
  | error e => exact ⟨e, rfl, fun _ => rfl⟩
  | ok r =>
    obtain ⟨l, f, n⟩ := r
    obtain ⟨b1, b2, b3⟩ := hd_bounds hh
    simp only
    cases l with
    | false =>
      rcases Decidable.em (f + n > 65536) with h1 | h1
      · rw [if_pos (.inr h1), if_pos h1]; exact ⟨1, rfl, fun _ => rfl⟩
      · rw [if_neg (show ¬ ((false = true ∧ 16 ≤ d) ∨ 65536 < f + n) from fun h => h.elim (fun h => by cases h.1) h1), if_neg h1]
        rcases Decidable.em (s.length < f + n) with h2 | h2
        · rw [if_pos h2, if_pos h2]; exact ⟨7, rfl, fun _ => rfl⟩
        · rw [if_neg h2, if_neg h2, if_pos rfl, if_pos rfl]
          split
          · rename_i r' e
            split at e <;> first | (cases e; done) | skip
            rename_i h3
            rw [if_neg h3]; exact e
          · rename_i e' e
            split at e
            · rename_i h3
              rw [if_pos h3]; cases e; exact ⟨1, rfl, fun _ => rfl⟩
            · cases e
    | true =>
      have hf := b3 rfl
      rcases Decidable.em (f + n > 65536) with h1 | h1
      · rw [if_pos (.inr h1), if_pos h1]; exact ⟨1, rfl, fun _ => rfl⟩
      · rw [if_neg h1]
        rcases Decidable.em (16 ≤ d) with h4 | h4
        · rw [if_pos (.inl ⟨rfl, h4⟩)]
          rcases Decidable.em (s.length < f + n) with h2 | h2
          · rw [if_pos h2]; exact ⟨7, rfl, fun h => absurd h (by omega)⟩
          · rw [if_neg h2, if_neg (by simp), if_pos h4]; exact ⟨1, rfl, fun _ => rfl⟩
        · rw [if_neg (show ¬ ((true = true ∧ 16 ≤ d) ∨ 65536 < f + n) from fun h => h.elim (fun h => h4 h.2) h1)]
          rcases Decidable.em (s.length < f + n) with h2 | h2
          · rw [if_pos h2, if_pos h2]; exact ⟨7, rfl, fun _ => rfl⟩
          · have hb : ((s.drop f).take n).length < s.length := by rw [List.length_take, List.length_drop]; omega
            rw [if_neg h2, if_neg h2, if_neg (by simp), if_neg (by simp), if_neg h4, dif_pos hb]
            cases itemsP (d + 1) ((s.drop f).take n) with
            | none => exact ⟨1, rfl, fun _ => rfl⟩
            | some xs => rfl
theorem one_zero (s : List UInt8) : oneR 0 s = parse 0 s := by
  have h := one_parse 0 s
  cases ho : oneR 0 s with
  | ok r => rw [ho] at h; exact h.symm
  | error e => rw [ho] at h; obtain ⟨e', h1, h2⟩ := h; rw [h1, h2 (by decide)]
theorem items_one {d : Nat} {s : List UInt8} (hs : s ≠ []) : itemsP d s = match oneR d s with
    | .error _ => none
    | .ok (x, k) => (itemsP d (s.drop k)).map (x :: ·) := by
  have h := one_parse d s
  rw [itemsP_cons hs]
  cases ho : oneR d s with
  | ok r =>
    rw [ho] at h
    obtain ⟨x, k⟩ := r
    have h : parse d s = .ok (x, k) := h
    have := (parse_ok h).pos
    rw [h]
    simp only
    rw [if_pos (by omega)]
  | error e => rw [ho] at h; obtain ⟨e', h1, h2⟩ := h; rw [h1]
def resP : Except Nat (ItemD × Nat) → AV
  | .error e => .tup [.agg [.bool false, .str [], .sl false 3 []], .int .i64 (0 : Int), .int .i64 (e : Int)]
  | .ok (it, k) => .tup [.agg [.bool it.list, .str it.text, .sl false 3 (it.items.map ItemD.av)], .int .i64 (k : Int), .int .i64 (0 : Int)]
theorem fins3 {a b : AV} (h : Dull a b) (r : List AV) : Fins (a :: r) (b :: r) := .cons (.dull h) (finsRefl _)
theorem dull_item (l : Bool) (t : List UInt8) (fr : Bool) (es : List AV) : Dull (.agg [.bool l, .str t, .sl fr 3 es]) (.agg [.bool l, .str t, .sl false 3 es]) := dulls_agg (.cons (.refl _) (.cons (.refl _) (.cons (dsl _ _ _) .nil)))
theorem dull_none (l : Bool) (t : List UInt8) : Dull (.agg [.bool l, .str t, .ext nilP]) (.agg [.bool l, .str t, .sl false 3 []]) := dulls_agg (.cons (.refl _) (.cons (.refl _) (.cons (.nil _ _) .nil)))
theorem c_one (N : Nat) : ∀ (s : List UInt8) (d : Nat), s.length ≤ N → s.length ≤ 16777216 → d ≤ 16 → Contract Try.prog 22 [.str s, .int .i64 d] (resP (oneR d s)) := by
  induction N using Nat.strongRecOn with
  | _ N ih =>
    intro s d hN hs hd
    have hr := c_item_read s (by omega)
    have wd : IntKind.i64.wrap ((d : Int) + 1) = ((d + 1 : Nat) : Int) := wi64_nat d (by omega)
    cases hh : hdOf s with
    | error e =>
      have he := hd_err hh
      have e0 : ((e : Int) != 0) = true := by rcases he with rfl | rfl <;> rfl
      have ho : oneR d s = .error e := by unfold oneR; rw [hh]
      rw [ho]
      rw [hh] at hr
      unfold hdRes at hr
      refine contract_of (C := cf 104 [0, 1, 4, 5, 6, 7, 8, 9, 10, 11, 12, 19, 27, 39, 45, 63, 81, 91] (fun _ => [])) (cf_ok _ _ _) (fn := Try.f22) Try.func22 (by kernel_rfl) rfl (by kernel_rfl) (by simp [cf]) (plain2 (.str _) (.int _ _)) (by decide) (cellsOk (by kernel_rfl)) ?_
      simp only [go_sem, seval]
      refine ex_call (by exact hr) ?_
      simp only [go_sem, seval, e0]
      refine finTupD (vs' := [.agg [.bool false, .str [], .ext nilP], .int .i64 (0 : Int), .int .i64 (e : Int)]) ?_ (fins3 (dull_none _ _) _)
      show resOf _ _ [.cell 4 26, .tmp 5, .tmp 6] = _
      simp only [go_sem, seval]
    | ok r =>
      obtain ⟨l, f, n⟩ := r
      obtain ⟨b1, b2, b3⟩ := hd_bounds hh
      rw [hh] at hr
      unfold hdRes at hr
      have wfn : IntKind.i64.wrap ((f : Int) + (n : Int)) = ((f + n : Nat) : Int) := by rw [wi64 (by omega) (by omega)]; omega
      have hsub : f + n - f = n := by omega
      refine contract_of (C := cf 104 [0, 1, 4, 5, 6, 7, 8, 9, 10, 11, 12, 19, 27, 39, 45, 63, 81, 91] (fun _ => [])) (cf_ok _ _ _) (fn := Try.f22) Try.func22 (by kernel_rfl) rfl (by kernel_rfl) (by simp [cf]) (plain2 (.str _) (.int _ _)) (by decide) (cellsOk (by kernel_rfl)) ?_
      simp only [go_sem, seval]
      refine ex_call (by exact hr) ?_
      unfold oneR
      rw [hh]
      simp only
      rcases Decidable.em ((l = true ∧ 16 ≤ d) ∨ 65536 < f + n) with h1 | h1
      · rw [if_pos h1]
        have e1 : decide (((f + n : Nat) : Int) > 65536) = decide (65536 < f + n) := decide_congr (by omega)
        have e2 : decide ((d : Int) ≥ 16) = decide (16 ≤ d) := decide_congr (by omega)
        have e3 : (l && decide (16 ≤ d) || decide (65536 < f + n)) = true := by
          cases l <;> simp_all
        simp only [go_sem, seval, wfn]
        refine ex_joinB 27 (l && decide (16 ≤ d) || decide (65536 < f + n)) ?_ ?_
        · repeat' (first | (refine ex_split (fun h => ?_) (fun h => ?_)) | (with_reducible refine And.intro (by omega) ?_) |
            (simp only [go_sem, seval, wfn, e1, e2]))
          all_goals (try simp only [ASt.mk.injEq, List.cons.injEq, Prod.mk.injEq, AV.bool.injEq, true_and, and_true, eq_self])
          all_goals first | (simp_all; done) | (simp_all; omega) | (rw [Bool.eq_iff_iff]; simp only [List.length_map, Bool.or_eq_true, Bool.and_eq_true, Bool.not_eq_true', Bool.not_eq_false', decide_eq_true_eq, decide_eq_false_iff_not, bne_iff_ne, beq_iff_eq, ne_eq, true_iff, iff_true, false_iff, iff_false, Bool.false_eq_true, not_false_eq_true, not_true_eq_false] at *; omega)
        rw [e3]
        simp only [go_sem, seval]
        refine finTupD (vs' := [.agg [.bool false, .str [], .ext nilP], .int .i64 (0 : Int), .int .i64 (1 : Int)]) ?_ (fins3 (dull_none _ _) _)
        show resOf _ _ [.cell 4 26, .tmp 5, .tmp 6] = _
        simp only [go_sem, seval]
      · rw [if_neg h1]
        have h2 : ¬ 65536 < f + n := fun h => h1 (.inr h)
        have e1 : decide (((f + n : Nat) : Int) > 65536) = false := decide_eq_false (by omega)
        rcases Decidable.em (s.length < f + n) with h3 | h3
        · rw [if_pos h3]
          have e3 : decide (((f + n : Nat) : Int) > (s.length : Int)) = true := decide_eq_true (by omega)
          cases l with
          | false =>
            simp only [go_sem, seval, wfn, e1, e3]
            refine finTupD (vs' := [.agg [.bool false, .str [], .ext nilP], .int .i64 (0 : Int), .int .i64 (7 : Int)]) ?_ (fins3 (dull_none _ _) _)
            show resOf _ _ [.cell 4 26, .tmp 5, .tmp 6] = _
            simp only [go_sem, seval]
          | true =>
            have e2 : decide ((d : Int) ≥ 16) = false := decide_eq_false fun h => h1 (.inl ⟨rfl, by omega⟩)
            simp only [go_sem, seval, wfn, e1, e2, e3]
            refine finTupD (vs' := [.agg [.bool false, .str [], .ext nilP], .int .i64 (0 : Int), .int .i64 (7 : Int)]) ?_ (fins3 (dull_none _ _) _)
            show resOf _ _ [.cell 4 26, .tmp 5, .tmp 6] = _
            simp only [go_sem, seval]
        · rw [if_neg h3]
          have e3 : decide (((f + n : Nat) : Int) > (s.length : Int)) = false := decide_eq_false (by omega)
          have hlen : ((s.drop f).take n).length = n := by rw [List.length_take, List.length_drop]; omega
          cases l with
          | false =>
            rw [if_pos rfl]
            have ha := c_item_alone ((s.drop f).take n) (by omega)
            rcases Decidable.em (0 < f) with h4 | h4
            · have e4 : decide ((f : Int) > 0) = true := decide_eq_true (by omega)
              simp only [go_sem, seval, wfn, e1, e3, e4, Int.toNat_natCast, hsub]
              refine ⟨by omega, ?_⟩
              refine ex_call (by exact ha) ?_
              cases hal : aloneB ((s.drop f).take n) with
              | true =>
                rw [if_pos ⟨h4, rfl⟩]
                simp only [go_sem, seval]
                refine finTupD (vs' := [.agg [.bool false, .str [], .ext nilP], .int .i64 (0 : Int), .int .i64 (1 : Int)]) ?_ (fins3 (dull_none _ _) _)
                show resOf _ _ [.cell 4 26, .tmp 5, .tmp 6] = _
                simp only [go_sem, seval]
              | false =>
                rw [if_neg (fun h => by cases h.2)]
                simp only [go_sem, seval, Int.toNat_natCast, hsub]
                refine ⟨by omega, ?_⟩
                refine finTupD (vs' := [.agg [.bool false, .str ((s.drop f).take n), .ext nilP], .int .i64 ((f + n : Nat) : Int), .int .i64 (0 : Int)]) ?_ (fins3 (dull_none _ _) _)
                show resOf _ _ [.cell 4 26, .tmp 5, .tmp 6] = _
                simp only [go_sem, seval]
            · have e4 : decide ((f : Int) > 0) = false := decide_eq_false (by omega)
              rw [if_neg (fun h => h4 h.1)]
              simp only [go_sem, seval, wfn, e1, e3, e4, Int.toNat_natCast, hsub]
              refine ⟨by omega, ?_⟩
              refine finTupD (vs' := [.agg [.bool false, .str ((s.drop f).take n), .ext nilP], .int .i64 ((f + n : Nat) : Int), .int .i64 (0 : Int)]) ?_ (fins3 (dull_none _ _) _)
              show resOf _ _ [.cell 4 26, .tmp 5, .tmp 6] = _
              simp only [go_sem, seval]
          | true =>
            have hf := b3 rfl
            have hd16 : d < 16 := by
              rcases Nat.lt_or_ge d 16 with h | h
              · exact h
              · exact absurd (.inl ⟨rfl, h⟩) h1
            have e2 : decide ((d : Int) ≥ 16) = false := decide_eq_false (by omega)
            rw [if_neg (by simp)]
            obtain ⟨body, hbody⟩ : ∃ body, body = (s.drop f).take n := ⟨_, rfl⟩
            rw [← hbody] at hlen ⊢
            simp only [go_sem, seval, wfn, e1, e2, e3, Int.toNat_natCast, hsub]
            refine ⟨by omega, ?_⟩
            rw [← hbody]
            refine ex_iter [1, 4, 8, 9] (fun q : List ItemD × List UInt8 => ⟨[(1, .int .i64 d), (4, .var 4 0), (8, .int .i64 (f + n : Nat)), (9, .str q.2)], [(4, [.bool true, .str [], .own false 3 (q.1.map ItemD.av)])], []⟩)
              (fun q => q.1.length + q.2.length ≤ n ∧ itemsP (d + 1) body = (itemsP (d + 1) q.2).map (q.1 ++ ·)) (fun q => q.2.length) ([], body) ?_ ?_ ?_
            · simp only [ASt.keep, consIf, keepL, keepV, AV.isBot, List.contains_cons, List.contains_nil, Nat.reduceBEq, Bool.or_false, Bool.false_or, Bool.or_true, Bool.true_or, beq_self_eq_true, Bool.false_eq_true, ↓reduceIte, if_false, if_true]
              rfl
            · refine ⟨by simp only [List.length_nil]; omega, ?_⟩
              cases itemsP (d + 1) body <;> rfl
            · rintro r ⟨xs, rest⟩ ⟨hq1, hq2⟩ next
              simp only at hq1 hq2
              simp only [go_sem, seval]
              refine ex_br (fun hc => ?_) (fun hc => ?_)
              · have hne : rest ≠ [] := by rintro rfl; simp at hc
                have hone := items_one (d := d + 1) hne
                have hcall := ih rest.length (by omega) rest (d + 1) (Nat.le_refl _) (by omega) (by omega)
                have hp := one_parse (d + 1) rest
                simp only [go_sem, seval, wd]
                cases ho : oneR (d + 1) rest with
                | error e =>
                  rw [ho] at hcall hone hp
                  have he0 : ((e : Int) != 0) = true := by
                    unfold oneR at ho
                    cases hh2 : hdOf rest with
                    | error e2 =>
                      rw [hh2] at ho
                      cases ho
                      rcases hd_err hh2 with rfl | rfl <;> rfl
                    | ok r2 =>
                      obtain ⟨l2, f2, n2⟩ := r2
                      rw [hh2] at ho
                      simp only at ho
                      repeat' (split at ho)
                      all_goals first | (cases ho; rfl) | (cases ho; done)
                  have hnone : itemsP (d + 1) body = none := by rw [hq2, hone]; rfl
                  rw [hnone]
                  unfold resP at hcall
                  refine ex_call (by exact hcall) ?_
                  simp only [go_sem, seval, he0]
                  refine finTupD (vs' := [.agg [.bool false, .str [], .ext nilP], .int .i64 (0 : Int), .int .i64 (1 : Int)]) ?_ (fins3 (dull_none _ _) _)
                  show resOf _ _ [.cell 4 26, .tmp 5, .tmp 6] = _
                  simp only [go_sem, seval]
                | ok r2 =>
                  obtain ⟨x, k⟩ := r2
                  rw [ho] at hcall hone hp
                  have hp : parse (d + 1) rest = .ok (x, k) := hp
                  have hpo := parse_ok hp
                  have hp1 := hpo.pos
                  have hp2 := hpo.le
                  unfold resP at hcall
                  refine ex_call (by exact hcall) ?_
                  simp only [go_sem, seval]
                  refine ex_draw [9] [] (.quiet 0 (.quiet 1 (.quiet 2 (.quiet 5 (.quiet 6 (.quiet 7 (.one 3 (.one 4 (.quiet 8 (.unlock (.one 9 (.quiet 10 (.fin))))))))))))) (by kernel_rfl) ?_
                  simp only [go_sem, seval, List.length_map, Int.toNat_natCast]
                  repeat with_reducible refine And.intro (by first | omega | (simp only [List.length_cons, List.length_append, List.length_nil, List.length_map, List.length_take, List.length_drop, List.length_set]; omega)) ?_
                  refine next (xs ++ [x], rest.drop k) _ ?_ ?_ ?_
                  · refine ⟨by simp only [List.length_append, List.length_singleton, List.length_drop]; omega, ?_⟩
                    simp only
                    rw [hq2, hone]
                    simp only [Option.map_map]
                    congr 1
                    funext ys
                    simp
                  · simp only [List.length_drop]; omega
                  · simp only [ASt.keep, consIf, keepL, keepV, AV.isBot, List.contains_cons, List.contains_nil, Nat.reduceBEq, Bool.or_false, Bool.false_or, Bool.or_true, Bool.true_or, beq_self_eq_true, Bool.false_eq_true, ↓reduceIte, if_false, if_true]
                    simp only [List.map_append, List.map_cons, List.map_nil, ItemD.av_eq, ItemD.cells]
                    rw [List.take_of_length_le (by simp)]
              · have hnil : rest = [] := by simpa using hc
                subst hnil
                have hsome : itemsP (d + 1) body = some xs := by rw [hq2, itemsP_nil]; simp
                rw [hsome]
                simp only [go_sem, seval]
                refine finTupD (vs' := [.agg [.bool true, .str [], .sl true 3 (xs.map ItemD.av)], .int .i64 ((f + n : Nat) : Int), .int .i64 (0 : Int)]) ?_ (fins3 (dull_item _ _ _ _) _)
                show resOf _ _ [.cell 4 26, .tmp 5, .tmp 6] = _
                simp only [go_sem, seval]
theorem c_item_Take (s : List UInt8) (hs : s.length ≤ 16777216) : Contract Try.prog 6 [.str s] (resP (parse 0 s)) := by
  have h := c_one s.length s 0 (Nat.le_refl _) hs (by omega)
  rw [one_zero] at h
  cases hp : parse 0 s with
  | error e =>
    rw [hp] at h
    unfold resP at h
    refine contract_of (C := cf 10 [0, 2, 3, 4] (fun _ => [])) (cf_ok _ _ _) (fn := Try.f6) Try.func6 (by kernel_rfl) rfl (by kernel_rfl) (by simp [cf]) (plain1 (.str _)) (by decide) (cellsOk (by kernel_rfl)) ?_
    simp only [go_sem, seval]
    refine ex_call (by exact h) ?_
    simp only [go_sem, seval]
    refine finTup ?_
    show resOf _ _ [.cell 2 26, .tmp 3, .tmp 4] = _
    simp only [go_sem, seval]
  | ok r =>
    obtain ⟨it, k⟩ := r
    rw [hp] at h
    unfold resP at h
    refine contract_of (C := cf 10 [0, 2, 3, 4] (fun _ => [])) (cf_ok _ _ _) (fn := Try.f6) Try.func6 (by kernel_rfl) rfl (by kernel_rfl) (by simp [cf]) (plain1 (.str _)) (by decide) (cellsOk (by kernel_rfl)) ?_
    simp only [go_sem, seval]
    refine ex_call (by exact h) ?_
    simp only [go_sem, seval]
    refine finTup ?_
    show resOf _ _ [.cell 2 26, .tmp 3, .tmp 4] = _
    simp only [go_sem, seval]
/-- The item that all of the bytes are. -/
def parseAll (s : List UInt8) : Except Nat ItemD :=
  match parse 0 s with
  | .error e => .error e
  | .ok (it, k) => if k < s.length then .error 1 else .ok it
def resA : Except Nat ItemD → AV
  | .error e => .tup [.agg [.bool false, .str [], .sl false 3 []], .int .i64 (e : Int)]
  | .ok it => .tup [.agg [.bool it.list, .str it.text, .sl false 3 (it.items.map ItemD.av)], .int .i64 (0 : Int)]
theorem parse_err {s : List UInt8} {e : Nat} (h : parse 0 s = .error e) : e = 7 ∨ e = 1 := by
  rw [← one_zero] at h
  unfold oneR at h
  cases hh : hdOf s with
  | error e2 => rw [hh] at h; cases h; exact hd_err hh
  | ok r2 =>
    obtain ⟨l2, f2, n2⟩ := r2
    rw [hh] at h
    simp only at h
    repeat' (split at h)
    all_goals first | (cases h; omega) | (cases h; done)
theorem c_item_Parse (s : List UInt8) (hs : s.length ≤ 16777216) : Contract Try.prog 11 [.str s] (resA (parseAll s)) := by
  have h := c_item_Take s hs
  unfold parseAll
  cases hp : parse 0 s with
  | error e =>
    rw [hp] at h
    unfold resP at h
    have e0 : ((e : Int) != 0) = true := by rcases parse_err hp with rfl | rfl <;> rfl
    refine contract_of (C := cf 25 [0, 2, 3, 4, 5, 6, 13, 18] (fun _ => [])) (cf_ok _ _ _) (fn := Try.f11) Try.func11 (by kernel_rfl) rfl (by kernel_rfl) (by simp [cf]) (plain1 (.str _)) (by decide) (cellsOk (by kernel_rfl)) ?_
    simp only [go_sem, seval]
    refine ex_call (by exact h) ?_
    simp only [go_sem, seval, e0]
    refine finTupD (vs' := [.agg [.bool false, .str [], .ext nilP], .int .i64 (e : Int)]) ?_ (fins3 (dull_none _ _) _)
    show resOf _ _ [.cell 2 26, .tmp 3] = _
    simp only [go_sem, seval]
  | ok r =>
    obtain ⟨it, k⟩ := r
    rw [hp] at h
    unfold resP at h
    simp only
    rcases Decidable.em (k < s.length) with hk | hk
    · rw [if_pos hk]
      have e1 : decide ((k : Int) < (s.length : Int)) = true := decide_eq_true (by omega)
      refine contract_of (C := cf 25 [0, 2, 3, 4, 5, 6, 13, 18] (fun _ => [])) (cf_ok _ _ _) (fn := Try.f11) Try.func11 (by kernel_rfl) rfl (by kernel_rfl) (by simp [cf]) (plain1 (.str _)) (by decide) (cellsOk (by kernel_rfl)) ?_
      simp only [go_sem, seval]
      refine ex_call (by exact h) ?_
      simp only [go_sem, seval, e1]
      refine finTupD (vs' := [.agg [.bool false, .str [], .ext nilP], .int .i64 (1 : Int)]) ?_ (fins3 (dull_none _ _) _)
      show resOf _ _ [.cell 2 26, .tmp 3] = _
      simp only [go_sem, seval]
    · rw [if_neg hk]
      have e1 : decide ((k : Int) < (s.length : Int)) = false := decide_eq_false (by omega)
      refine contract_of (C := cf 25 [0, 2, 3, 4, 5, 6, 13, 18] (fun _ => [])) (cf_ok _ _ _) (fn := Try.f11) Try.func11 (by kernel_rfl) rfl (by kernel_rfl) (by simp [cf]) (plain1 (.str _)) (by decide) (cellsOk (by kernel_rfl)) ?_
      simp only [go_sem, seval]
      refine ex_call (by exact h) ?_
      simp only [go_sem, seval, e1]
      refine finTup ?_
      show resOf _ _ [.cell 2 26, .tmp 3] = _
      simp only [go_sem, seval]
end Go.Proofs.Ytdenldjlijoeoaa.VA
end
section
/- Items out of bytes: the page's own. -/
namespace Go.Proofs.Ytdenldjlijoeoaa.VA
set_option maxRecDepth 10000
set_option linter.unusedSimpArgs false
set_option linter.unusedVariables false
set_option maxHeartbeats 16000000

def bodyR (d : Nat) (s : List UInt8) (l : Bool) (f n : Nat) : Except Nat (ItemD × Nat) :=
  if f + n > 65536 then .error 1
  else if s.length < f + n then .error 7
  else if l = false then (if 0 < f ∧ aloneB ((s.drop f).take n) = true then .error 1 else .ok (.mk false ((s.drop f).take n) [], f + n))
  else if 16 ≤ d then .error 1
  else match itemsP (d + 1) ((s.drop f).take n) with
    | some xs => .ok (.mk true [] xs, f + n)
    | none => .error 1
theorem parse_body {d : Nat} {s : List UInt8} {l : Bool} {f n : Nat} (hh : hdOf s = .ok (l, f, n)) : parse d s = bodyR d s l f n := by
  obtain ⟨b1, b2, b3⟩ := hd_bounds hh
  rw [parse, hh]
  unfold bodyR
  simp only
  split
  · rfl
  · split
    · rfl
    · split
      · rfl
      · split
        · rfl
        · rename_i h1 h2 h3 h4
          have hl : l = true := by cases l <;> simp_all
          have := b3 hl
          rw [dif_pos (by rw [List.length_take, List.length_drop]; omega)]
          all_goals (cases itemsP (d + 1) ((s.drop f).take n) <;> rfl)
theorem parse_errD {d : Nat} {s : List UInt8} {e : Nat} (h : parse d s = .error e) : e = 7 ∨ e = 1 := by
  cases hh : hdOf s with
  | error e2 => rw [parse, hh] at h; cases h; exact hd_err hh
  | ok r2 =>
    obtain ⟨l2, f2, n2⟩ := r2
    rw [parse_body hh] at h
    unfold bodyR at h
    repeat' (split at h)
    all_goals first | (cases h; omega) | (cases h; done)
theorem numOf_take_le (t : List UInt8) {i k : Nat} (h : i ≤ k) : numOf (t.take i) ≤ numOf (t.take k) := by
  have e : t.take k = t.take i ++ (t.drop i).take (k - i) := by
    rw [← List.take_add]; congr 1; omega
  rw [e, numOf_append]
  have : 0 < 256 ^ ((t.drop i).take (k - i)).length := Nat.pow_pos (by decide)
  have := Nat.le_mul_of_pos_right (numOf (t.take i)) this
  omega
theorem c_take (N : Nat) : ∀ (s : List UInt8) (d : Nat), s.length ≤ N → s.length ≤ 16777216 → d ≤ 16 → Contract Try.prog 23 [.str s, .int .i64 d] (resP (parse d s)) := by
  induction N using Nat.strongRecOn with
  | _ N ih =>
    intro s d hN hs hd
    have wd : IntKind.i64.wrap ((d : Int) + 1) = ((d + 1 : Nat) : Int) := wi64_nat d (by omega)
    cases s with
    | nil =>
      have hp : parse d [] = .error 7 := by rw [parse]; rfl
      rw [hp]
      refine contract_of (C := cf 139 [0, 1, 4, 5, 6, 7, 8, 9, 10, 11, 12, 13, 14, 15, 16, 17, 18, 22, 28, 34, 40, 47, 51, 55, 67, 70, 77, 84, 93, 100, 109, 114, 124] (fun _ => [])) (cf_ok _ _ _) (fn := Try.f23) Try.func23 (by kernel_rfl) rfl (by kernel_rfl) (by simp [cf]) (plain2 (.str _) (.int _ _)) (by decide) (cellsOk (by kernel_rfl)) ?_
      simp only [go_sem, seval, Int.cast_ofNat_Int]
      refine finTupD (vs' := [.agg [.bool false, .str [], .ext nilP], .int .i64 (0 : Int), .int .i64 (7 : Int)]) ?_ (fins3 (dull_none _ _) _)
      show resOf _ _ [.cell 4 26, .tmp 5, .tmp 6] = _
      simp only [go_sem, seval]
    | cons b t =>
      rw [List.length_cons] at hN hs
      have hb : b.toNat < 256 := b.toNat_lt
      have wb : IntKind.i64.wrap (b.toNat : Int) = (b.toNat : Int) := wi64n _ (by omega)
      have hpos : (0 : Int) < ((t.length + 1 : Nat) : Int) := by omega
      have e0 : (((t.length + 1 : Nat) : Int) == 0) = false := by simpa using (by omega : ¬ ((t.length + 1 : Nat) : Int) = 0)
      rcases Decidable.em (b.toNat < 128) with h1 | h1
      · have hh : hdOf (b :: t) = .ok (false, 0, 1) := by rw [hd_cons, if_pos h1]
        have hp : parse d (b :: t) = .ok (.mk false [b] [], 1) := by
          rw [parse_body hh]
          unfold bodyR
          rw [if_neg (by omega), if_neg (by simp), if_pos rfl, if_neg (by omega)]
          rfl
        rw [hp]
        have e1 : decide ((b.toNat : Int) < 128) = true := decide_eq_true (by omega)
        have hle : (1 : Int) ≤ ((t.length + 1 : Nat) : Int) := by omega
        refine contract_of (C := cf 139 [0, 1, 4, 5, 6, 7, 8, 9, 10, 11, 12, 13, 14, 15, 16, 17, 18, 22, 28, 34, 40, 47, 51, 55, 67, 70, 77, 84, 93, 100, 109, 114, 124] (fun _ => [])) (cf_ok _ _ _) (fn := Try.f23) Try.func23 (by kernel_rfl) rfl (by kernel_rfl) (by simp [cf]) (plain2 (.str _) (.int _ _)) (by decide) (cellsOk (by kernel_rfl)) ?_
        simp only [go_sem, seval, e0, e1, wb, hpos, hle, Int.cast_ofNat_Int]
        refine finTupD (vs' := [.agg [.bool false, .str [b], .ext nilP], .int .i64 (1 : Int), .int .i64 (0 : Int)]) ?_ (fins3 (dull_none _ _) _)
        show resOf _ _ [.cell 4 26, .tmp 5, .tmp 6] = _
        simp only [go_sem, seval]
      · have e1 : decide ((b.toNat : Int) < 128) = false := decide_eq_false (by omega)
        have hcons : hdOf (b :: t) = hdRest (decide (192 ≤ b.toNat)) (hdLen b) t := by rw [hd_cons, if_neg h1]
        obtain ⟨l, hl⟩ : ∃ l, decide (192 ≤ b.toNat) = l := ⟨_, rfl⟩
        obtain ⟨m, hm⟩ : ∃ m, hdLen b = m := ⟨_, rfl⟩
        rw [hl, hm] at hcons
        have hm64 : m < 64 := by rw [← hm]; unfold hdLen; split <;> omega
        have e2 : decide ((b.toNat : Int) ≥ 192) = l := by rw [← hl]; exact decide_congr (by omega)
        have w64 : IntKind.i64.wrap ((b.toNat : Int) - 64) = (b.toNat : Int) - 64 := wi64 (by omega) (by omega)
        have wl : l = true → IntKind.i64.wrap ((b.toNat : Int) - 64 - 128) = (m : Int) := fun e => by
          rw [wi64 (by omega) (by omega)]
          rw [e] at hl
          have : 192 ≤ b.toNat := of_decide_eq_true hl
          rw [← hm]; unfold hdLen; rw [if_pos this]; omega
        have wt : l = false → IntKind.i64.wrap ((b.toNat : Int) - 128) = (m : Int) := fun e => by
          rw [wi64 (by omega) (by omega)]
          rw [e] at hl
          have : ¬ 192 ≤ b.toNat := of_decide_eq_false hl
          rw [← hm]; unfold hdLen; rw [if_neg this]; omega
        refine contract_of (C := cf 139 [0, 1, 4, 5, 6, 7, 8, 9, 10, 11, 12, 13, 14, 15, 16, 17, 18, 22, 28, 34, 40, 47, 51, 55, 67, 70, 77, 84, 93, 100, 109, 114, 124] (fun _ => [])) (cf_ok _ _ _) (fn := Try.f23) Try.func23 (by kernel_rfl) rfl (by kernel_rfl) (by simp [cf]) (plain2 (.str _) (.int _ _)) (by decide) (cellsOk (by kernel_rfl)) ?_
        simp only [go_sem, seval, e0, e1, e2, wb, hpos]
        refine ex_cut (fun x : Int => ⟨[(0, .str (b :: t)), (1, .int .i64 d), (4, .var 4 0), (5, .int .i64 (0 : Int)), (6, .int .i64 (0 : Int)), (7, .var 7 0), (8, .int .i64 x), (9, .bool l), (22, .bool false), (28, .bool false), (34, .bool l)], [(4, [.bool false, .str [], .own false 3 []]), (7, [.bool false, .str [], .ext nilP])], []⟩) (fun x => IntKind.i64.wrap (x - 128) = (m : Int)) (fun x hx => ?_) (fun κ hκ => ?_)
        case refine_2 =>
          cases l with
          | true =>
            simp only [go_sem, seval, w64]
            exact hκ _ (wl rfl)
          | false =>
            simp only [go_sem, seval]
            exact hκ _ (wt rfl)
        simp only [go_sem, seval, hx]
        refine ex_cut (fun q : Bool × Nat × Nat => match q.1 with
          | false => ⟨[(0, .str (b :: t)), (1, .int .i64 d), (4, .var 4 0), (5, .int .i64 (0 : Int)), (6, .int .i64 (0 : Int)), (7, .var 7 0), (8, .int .i64 x), (9, .bool l), (10, .int .i64 (q.2.2 : Nat)), (11, .int .i64 (q.2.1 : Nat)), (22, .bool false), (28, .bool false), (34, .bool l), (40, .bool false)], [(4, [.bool false, .str [], .own false 3 []]), (7, [.bool false, .str [], .ext nilP])], []⟩
          | true => ⟨[(0, .str (b :: t)), (1, .int .i64 d), (4, .var 4 0), (7, .var 7 0), (9, .bool l), (10, .int .i64 (q.2.2 : Nat)), (11, .int .i64 (q.2.1 : Nat)), (12, .int .i64 (m - 55 : Nat)), (13, .int .i64 (m - 55 : Nat)), (55, .bool false), (70, .bool false)], [(4, [.bool false, .str [], .own false 3 []]), (7, [.bool false, .str [], .ext nilP])], []⟩)
          (fun q => hdOf (b :: t) = .ok (l, q.2.1, q.2.2) ∧ 1 ≤ q.2.1) (fun q hq => ?_) (fun κ hκ => ?_)
        case refine_2 =>
          rcases Decidable.em (m ≤ 55) with h55 | h55
          · have e3 : decide ((m : Int) > 55) = false := decide_eq_false (by omega)
            have hh : hdOf (b :: t) = .ok (l, 1, m) := by rw [hcons]; unfold hdRest; rw [if_pos h55]
            rw [e3]
            simp only [go_sem, seval]
            exact hκ (false, 1, m) ⟨hh, Nat.le_refl _⟩
          · have e3 : decide ((m : Int) > 55) = true := decide_eq_true (by omega)
            have w55 : IntKind.i64.wrap ((m : Int) - 55) = ((m - 55 : Nat) : Int) := by rw [wi64 (by omega) (by omega)]; omega
            have wf : IntKind.i64.wrap (1 + ((m - 55 : Nat) : Int)) = ((1 + (m - 55) : Nat) : Int) := by rw [wi64 (by omega) (by omega)]; omega
            unfold hdRest at hcons
            rw [if_neg h55] at hcons
            rw [e3]
            rcases Decidable.em (t.length < m - 55) with hlt | hlt
            · rw [if_pos hlt] at hcons
              have hp : parse d (b :: t) = .error 7 := by rw [parse, hcons]
              rw [hp]
              have e4 : decide (((t.length + 1 : Nat) : Int) < ((1 + (m - 55) : Nat) : Int)) = true := decide_eq_true (by omega)
              simp only [go_sem, seval, w55, wf, e4]
              refine ex_ret_any ?_
              refine finTupD (vs' := [.agg [.bool false, .str [], .ext nilP], .int .i64 (0 : Int), .int .i64 (7 : Int)]) ?_ (fins3 (dull_none _ _) _)
              show resOf _ _ [.cell 4 26, .tmp 5, .tmp 6] = _
              simp only [go_sem, seval]
            · rw [if_neg hlt] at hcons
              have e4 : decide (((t.length + 1 : Nat) : Int) < ((1 + (m - 55) : Nat) : Int)) = false := decide_eq_false (by omega)
              obtain ⟨c0, hc0⟩ : ∃ c0, t[0]? = some c0 := ⟨_, List.getElem?_eq_getElem (by omega)⟩
              have h1lt : (1 : Int) < ((t.length + 1 : Nat) : Int) := by omega
              rcases Decidable.em (t.head? = some 0) with hz | hz
              · rw [if_pos hz] at hcons
                have hp : parse d (b :: t) = .error 1 := by rw [parse, hcons]
                rw [hp]
                have hc : c0 = 0 := by rw [List.head?_eq_getElem?, hc0] at hz; exact Option.some.inj hz
                have e5 : ((c0.toNat : Int) == 0) = true := by rw [hc]; rfl
                simp only [go_sem, seval, w55, wf, e4, hc0, h1lt, e5]
                refine ex_ret_any ?_
                refine finTupD (vs' := [.agg [.bool false, .str [], .ext nilP], .int .i64 (0 : Int), .int .i64 (1 : Int)]) ?_ (fins3 (dull_none _ _) _)
                show resOf _ _ [.cell 4 26, .tmp 5, .tmp 6] = _
                simp only [go_sem, seval]
              · rw [if_neg hz] at hcons
                have hc : c0.toNat ≠ 0 := fun e => hz (by rw [List.head?_eq_getElem?, hc0, UInt8.toNat_inj.1 (show c0.toNat = (0 : UInt8).toNat from e)])
                have e5 : ((c0.toNat : Int) == 0) = false := by simpa using hc
                simp only [go_sem, seval, w55, wf, e4, hc0, h1lt, e5]
                refine ex_iter [0, 1, 4, 7, 9, 10, 12, 13] (fun i : Nat => ⟨[(0, .str (b :: t)), (1, .int .i64 d), (4, .var 4 0), (7, .var 7 0), (9, .bool l), (10, .int .i64 (numOf (t.take i) : Nat)), (12, .int .i64 (m - 55 : Nat)), (13, .int .i64 i)], [(4, [.bool false, .str [], .own false 3 []]), (7, [.bool false, .str [], .ext nilP])], []⟩)
                  (fun i => i ≤ m - 55 ∧ numOf (t.take i) ≤ 65536) (fun i => m - 55 - i) 0 ?_ ?_ ?_
                · simp only [ASt.keep, consIf, keepL, keepV, AV.isBot, List.contains_cons, List.contains_nil, Nat.reduceBEq, Bool.or_false, Bool.false_or, Bool.or_true, Bool.true_or, beq_self_eq_true, Bool.false_eq_true, ↓reduceIte, if_false, if_true]
                  rfl
                · exact ⟨Nat.zero_le _, by rw [List.take_zero]; decide⟩
                · rintro r i ⟨hi, hni⟩ next
                  simp only [go_sem, seval]
                  refine ex_br (fun hc1 => ?_) (fun hc1 => ?_)
                  · have hilt : i < m - 55 := by simpa using hc1
                    obtain ⟨c, hc⟩ : ∃ c, t[i]? = some c := ⟨_, List.getElem?_eq_getElem (by omega)⟩
                    have hcl : c.toNat < 256 := c.toNat_lt
                    have hget : (b :: t)[1 + i]? = some c := by rw [Nat.add_comm, List.getElem?_cons_succ]; exact hc
                    have hsn : numOf (t.take (i + 1)) = numOf (t.take i) * 256 + c.toNat := by rw [List.take_add_one, hc]; exact numOf_snoc _ _
                    have w1 : IntKind.i64.wrap ((numOf (t.take i) : Int) * 256) = (numOf (t.take i) : Int) * 256 := wi64 (by omega) (by omega)
                    have w2 : IntKind.i64.wrap (1 + (i : Int)) = ((1 + i : Nat) : Int) := by rw [wi64 (by omega) (by omega)]; omega
                    have w3 : IntKind.i64.wrap (c.toNat : Int) = (c.toNat : Int) := wi64n _ (by omega)
                    have w4 : IntKind.i64.wrap ((numOf (t.take i) : Int) * 256 + (c.toNat : Int)) = (numOf (t.take (i + 1)) : Int) := by rw [wi64 (by omega) (by omega), hsn]; omega
                    simp only [go_sem, seval, w1, w2, w3, w4, Int.toNat_natCast, hget]
                    refine ⟨by omega, ?_⟩
                    refine ex_br (fun hc2 => ?_) (fun hc2 => ?_)
                    · have hbig : numOf (t.take (i + 1)) > 65536 := by simp at hc2; omega
                      have := numOf_take_le t (show i + 1 ≤ m - 55 by omega)
                      rw [if_pos (.inl (by omega))] at hcons
                      have hp : parse d (b :: t) = .error 1 := by rw [parse, hcons]
                      rw [hp]
                      simp only [go_sem, seval]
                      refine ex_ret_any ?_
                      refine finTupD (vs' := [.agg [.bool false, .str [], .ext nilP], .int .i64 (0 : Int), .int .i64 (1 : Int)]) ?_ (fins3 (dull_none _ _) _)
                      show resOf _ _ [.cell 4 26, .tmp 5, .tmp 6] = _
                      simp only [go_sem, seval]
                    · have hsm : numOf (t.take (i + 1)) ≤ 65536 := by simp at hc2; omega
                      simp only [go_sem, seval]
                      refine next (i + 1) _ ⟨by omega, hsm⟩ (by omega) ?_
                      rw [← wi64_nat i (by omega)]
                      simp only [ASt.keep, consIf, keepL, keepV, AV.isBot, List.contains_cons, List.contains_nil, Nat.reduceBEq, Bool.or_false, Bool.false_or, Bool.or_true, Bool.true_or, beq_self_eq_true, Bool.false_eq_true, ↓reduceIte, if_false, if_true]
                  · have hie : i = m - 55 := by simp at hc1; omega
                    subst hie
                    have hirr : decide (((m - 55 : Nat) : Int) < ((m - 55 : Nat) : Int)) = false := decide_eq_false (by omega)
                    rw [hirr]
                    simp only [go_sem, seval]
                    rcases Decidable.em (numOf (t.take (m - 55)) < 56) with h7 | h7
                    · have e7 : decide ((numOf (t.take (m - 55)) : Int) < 56) = true := decide_eq_true (by omega)
                      rw [if_pos (.inr (by omega))] at hcons
                      have hp : parse d (b :: t) = .error 1 := by rw [parse, hcons]
                      rw [hp]
                      simp only [go_sem, seval, e7]
                      refine ex_ret_any ?_
                      refine finTupD (vs' := [.agg [.bool false, .str [], .ext nilP], .int .i64 (0 : Int), .int .i64 (1 : Int)]) ?_ (fins3 (dull_none _ _) _)
                      show resOf _ _ [.cell 4 26, .tmp 5, .tmp 6] = _
                      simp only [go_sem, seval]
                    · have e7 : decide ((numOf (t.take (m - 55)) : Int) < 56) = false := decide_eq_false (by omega)
                      rw [if_neg (by omega)] at hcons
                      simp only [go_sem, seval, e7, wf]
                      exact hκ (true, 1 + (m - 55), numOf (t.take (m - 55))) ⟨hcons, Nat.le_add_right 1 _⟩
        obtain ⟨o, f, n⟩ := q
        obtain ⟨hh, hf⟩ := hq
        simp only at hh hf
        obtain ⟨b1, b2, b3⟩ := hd_bounds hh
        rw [parse_body hh]
        have wfn : IntKind.i64.wrap ((f : Int) + (n : Int)) = ((f + n : Nat) : Int) := by rw [wi64 (by omega) (by omega)]; omega
        have hsub : f + n - f = n := by omega
        unfold bodyR
        rw [List.length_cons]
        cases o
        all_goals
          rcases Decidable.em (f + n > 65536) with h2 | h2
          · rw [if_pos h2]
            have e3 : decide (((f + n : Nat) : Int) > 65536) = true := decide_eq_true (by omega)
            simp only [go_sem, seval, wfn, e3]
            refine finTupD (vs' := [.agg [.bool false, .str [], .ext nilP], .int .i64 (0 : Int), .int .i64 (1 : Int)]) ?_ (fins3 (dull_none _ _) _)
            show resOf _ _ [.cell 4 26, .tmp 5, .tmp 6] = _
            simp only [go_sem, seval]
          rw [if_neg h2]
          have e3 : decide (((f + n : Nat) : Int) > 65536) = false := decide_eq_false (by omega)
          rcases Decidable.em (t.length + 1 < f + n) with h3 | h3
          · rw [if_pos h3]
            have e4 : decide (((t.length + 1 : Nat) : Int) < ((f + n : Nat) : Int)) = true := decide_eq_true (by omega)
            simp only [go_sem, seval, wfn, e3, e4]
            refine finTupD (vs' := [.agg [.bool false, .str [], .ext nilP], .int .i64 (0 : Int), .int .i64 (7 : Int)]) ?_ (fins3 (dull_none _ _) _)
            show resOf _ _ [.cell 4 26, .tmp 5, .tmp 6] = _
            simp only [go_sem, seval]
          rw [if_neg h3]
          have e4 : decide (((t.length + 1 : Nat) : Int) < ((f + n : Nat) : Int)) = false := decide_eq_false (by omega)
          have hlen : (((b :: t).drop f).take n).length = n := by rw [List.length_take, List.length_drop, List.length_cons]; omega
          obtain ⟨body, hbody⟩ : ∃ body, body = ((b :: t).drop f).take n := ⟨_, rfl⟩
          rw [← hbody] at hlen ⊢
          cases l
          case' false =>
            rw [if_pos rfl]
            simp only [go_sem, seval, wfn, e3, e4, Int.toNat_natCast, hsub]
            refine ⟨by omega, ?_⟩
            rw [← hbody]
            rcases Decidable.em (n = 1) with hn1 | hn1
            · subst hn1
              obtain ⟨c, hc⟩ : ∃ c, body = [c] := List.length_eq_one_iff.1 hlen
              subst hc
              have ha : aloneB [c] = decide (c.toNat < 128) := rfl
              have e8 : decide ((c.toNat : Int) < 128) = decide (c.toNat < 128) := decide_congr (by omega)
              rw [ha]
              cases h8 : decide (c.toNat < 128) with
              | true =>
                rw [h8] at e8
                rw [if_pos ⟨hf, rfl⟩]
                simp only [go_sem, seval, e8, Int.cast_ofNat_Int]
                refine finTupD (vs' := [.agg [.bool false, .str [], .ext nilP], .int .i64 (0 : Int), .int .i64 (1 : Int)]) ?_ (fins3 (dull_none _ _) _)
                show resOf _ _ [.cell 4 26, .tmp 5, .tmp 6] = _
                simp only [go_sem, seval]
              | false =>
                rw [h8] at e8
                rw [if_neg (fun h => by cases h.2)]
                simp only [go_sem, seval, e8, wfn, Int.cast_ofNat_Int]
                refine finTupD (vs' := [.agg [.bool false, .str [c], .ext nilP], .int .i64 ((f + 1 : Nat) : Int), .int .i64 (0 : Int)]) ?_ (fins3 (dull_none _ _) _)
                show resOf _ _ [.cell 4 26, .tmp 5, .tmp 6] = _
                have wf1 : IntKind.i64.wrap ((f : Int) + 1) = ((f + 1 : Nat) : Int) := wfn
                simp only [go_sem, seval, wf1]
            · have e8 : ((n : Int) == 1) = false := by simpa using (by omega : ¬ (n : Int) = 1)
              have ha : aloneB body = false := by
                cases hq : aloneB body with
                | false => rfl
                | true => have := alone_len hq; omega
              rw [ha, if_neg (fun h => by cases h.2)]
              simp only [go_sem, seval, e8, wfn]
              refine finTupD (vs' := [.agg [.bool false, .str body, .ext nilP], .int .i64 ((f + n : Nat) : Int), .int .i64 (0 : Int)]) ?_ (fins3 (dull_none _ _) _)
              show resOf _ _ [.cell 4 26, .tmp 5, .tmp 6] = _
              simp only [go_sem, seval]
          case' true =>
            rw [if_neg (by simp)]
            simp only [go_sem, seval, wfn, e3, e4, Int.toNat_natCast, hsub, wd]
            refine ⟨by omega, ?_⟩
            rw [← hbody]
            rcases Decidable.em (16 ≤ d) with h9 | h9
            · rw [if_pos h9]
              have e9 : decide (((d + 1 : Nat) : Int) > 16) = true := decide_eq_true (by omega)
              simp only [go_sem, seval, e9]
              refine finTupD (vs' := [.agg [.bool false, .str [], .ext nilP], .int .i64 (0 : Int), .int .i64 (1 : Int)]) ?_ (fins3 (dull_none _ _) _)
              show resOf _ _ [.cell 4 26, .tmp 5, .tmp 6] = _
              simp only [go_sem, seval]
            rw [if_neg h9]
            have e9 : decide (((d + 1 : Nat) : Int) > 16) = false := decide_eq_false (by omega)
            simp only [go_sem, seval, e9]
            refine ex_iter [1, 4, 7, 10, 11, 14, 15] (fun q : List ItemD × List UInt8 => ⟨[(1, .int .i64 d), (4, .var 4 0), (7, .var 7 0), (10, .int .i64 n), (11, .int .i64 f), (14, .str q.2), (15, .var 15 0)], [(4, [.bool false, .str [], .own false 3 []]), (7, [.bool false, .str [], .ext nilP]), (15, [.bool true, .str [], repI 3 q.1.length (q.1.map ItemD.av)])], []⟩)
              (fun q => q.1.length + q.2.length ≤ n ∧ itemsP (d + 1) body = (itemsP (d + 1) q.2).map (q.1 ++ ·)) (fun q => q.2.length) ([], body) ?_ ?_ ?_
            · simp only [ASt.keep, consIf, keepL, keepV, AV.isBot, List.contains_cons, List.contains_nil, Nat.reduceBEq, Bool.or_false, Bool.false_or, Bool.or_true, Bool.true_or, beq_self_eq_true, Bool.false_eq_true, ↓reduceIte, if_false, if_true]
              rfl
            · refine ⟨by simp only [List.length_nil]; omega, ?_⟩
              cases itemsP (d + 1) body <;> rfl
            · rintro r ⟨xs, rest⟩ ⟨hq1, hq2⟩ next
              simp only at hq1 hq2
              simp only [go_sem, seval]
              refine ex_br (fun hc => ?_) (fun hc => ?_)
              · have hne : rest ≠ [] := by rintro rfl; simp at hc
                have hone := itemsP_cons (d := d + 1) hne
                have hcall := ih rest.length (by omega) rest (d + 1) (Nat.le_refl _) (by omega) (by omega)
                simp only [go_sem, seval, wd]
                cases ho : parse (d + 1) rest with
                | error e =>
                  rw [ho] at hcall hone
                  have he0 : ((e : Int) != 0) = true := by rcases parse_errD ho with rfl | rfl <;> rfl
                  have hnone : itemsP (d + 1) body = none := by rw [hq2, hone]; rfl
                  rw [hnone]
                  unfold resP at hcall
                  refine ex_call (by exact hcall) ?_
                  simp only [go_sem, seval, he0]
                  refine finTupD (vs' := [.agg [.bool false, .str [], .ext nilP], .int .i64 (0 : Int), .int .i64 (1 : Int)]) ?_ (fins3 (dull_none _ _) _)
                  show resOf _ _ [.cell 4 26, .tmp 5, .tmp 6] = _
                  simp only [go_sem, seval]
                | ok r2 =>
                  obtain ⟨x, k⟩ := r2
                  rw [ho] at hcall hone
                  have hpo := parse_ok ho
                  have hp1 := hpo.pos
                  have hp2 := hpo.le
                  simp only at hone
                  rw [if_pos (by omega)] at hone
                  unfold resP at hcall
                  refine ex_call (by exact hcall) ?_
                  have hinv : (xs ++ [x]).length + (rest.drop k).length ≤ n ∧ itemsP (d + 1) body = (itemsP (d + 1) (rest.drop k)).map ((xs ++ [x]) ++ ·) := by
                    refine ⟨by simp only [List.length_append, List.length_singleton, List.length_drop]; omega, ?_⟩
                    rw [hq2, hone, Option.map_map]
                    congr 1
                    funext ys
                    simp
                  have hmu : (rest.drop k).length < rest.length := by rw [List.length_drop]; omega
                  cases xs with
                  | nil =>
                    simp only [go_sem, seval, repI, Int.toNat_natCast]
                    repeat with_reducible refine And.intro (by first | omega | (simp only [List.length_cons, List.length_append, List.length_nil, List.length_map, List.length_take, List.length_drop, List.length_set]; omega)) ?_
                    refine next ([] ++ [x], rest.drop k) _ hinv hmu ?_
                    simp only [ASt.keep, consIf, keepL, keepV, AV.isBot, List.contains_cons, List.contains_nil, Nat.reduceBEq, Bool.or_false, Bool.false_or, Bool.or_true, Bool.true_or, beq_self_eq_true, Bool.false_eq_true, ↓reduceIte, if_false, if_true]
                    simp only [List.nil_append, List.map_cons, List.map_nil, ItemD.av_eq, ItemD.cells, List.length_singleton, repI]
                    rw [List.take_of_length_le (by simp)]
                  | cons y ys =>
                    have hyl : ys.length + 1 + rest.length ≤ n := hq1
                    simp only [go_sem, seval, repI, List.length_map, Int.toNat_natCast]
                    repeat with_reducible refine And.intro (by first | omega | (simp only [List.length_cons, List.length_append, List.length_nil, List.length_map, List.length_take, List.length_drop, List.length_set]; omega)) ?_
                    refine next ((y :: ys) ++ [x], rest.drop k) _ hinv hmu ?_
                    simp only [ASt.keep, consIf, keepL, keepV, AV.isBot, List.contains_cons, List.contains_nil, Nat.reduceBEq, Bool.or_false, Bool.false_or, Bool.or_true, Bool.true_or, beq_self_eq_true, Bool.false_eq_true, ↓reduceIte, if_false, if_true]
                    simp only [List.cons_append, List.map_append, List.map_cons, List.map_nil, ItemD.av_eq, ItemD.cells, List.length_cons, repI]
                    rw [List.take_of_length_le (by simp)]
              · have hnil : rest = [] := by
                  cases rest with
                  | nil => rfl
                  | cons _ _ => simp at hc
                subst hnil
                have hsome : itemsP (d + 1) body = some xs := by rw [hq2, itemsP_nil]; simp
                rw [hsome]
                cases xs with
                | nil =>
                  simp only [go_sem, seval, repI, wfn]
                  refine finTupD (vs' := [.agg [.bool true, .str [], .ext nilP], .int .i64 ((f + n : Nat) : Int), .int .i64 (0 : Int)]) ?_ (fins3 (dull_none _ _) _)
                  show resOf _ _ [.cell 4 26, .tmp 5, .tmp 6] = _
                  simp only [go_sem, seval]
                | cons y ys =>
                  simp only [go_sem, seval, repI, wfn]
                  refine finTupD (vs' := [.agg [.bool true, .str [], .sl true 3 ((y :: ys).map ItemD.av)], .int .i64 ((f + n : Nat) : Int), .int .i64 (0 : Int)]) ?_ (fins3 (dull_item _ _ _ _) _)
                  show resOf _ _ [.cell 4 26, .tmp 5, .tmp 6] = _
                  simp only [go_sem, seval]
end Go.Proofs.Ytdenldjlijoeoaa.VA
end
section
/- Items out of bytes: the page's answer at the top. -/
namespace Go.Proofs.Ytdenldjlijoeoaa.VA
set_option maxRecDepth 10000
set_option linter.unusedSimpArgs false
set_option linter.unusedVariables false
set_option maxHeartbeats 4000000

theorem c_ref4_Take (s : List UInt8) (hs : s.length ≤ 16777216) : Contract Try.prog 7 [.str s] (resP (parse 0 s)) := by
  have h := c_take s.length s 0 (Nat.le_refl _) hs (by omega)
  cases hp : parse 0 s with
  | error e =>
    rw [hp] at h
    unfold resP at h
    refine contract_of (C := cf 10 [0, 2, 3, 4] (fun _ => [])) (cf_ok _ _ _) (fn := Try.f7) Try.func7 (by kernel_rfl) rfl (by kernel_rfl) (by simp [cf]) (plain1 (.str _)) (by decide) (cellsOk (by kernel_rfl)) ?_
    simp only [go_sem, ↓reduceIte, Nat.reduceLT, Nat.reduceLeDiff, Nat.reduceAdd, Nat.reduceSub, Nat.reduceMul, Nat.reduceEqDiff, Nat.reduceBEq, Nat.reduceMod, Nat.reduceDiv, Int.reduceToNat, reduceCtorEq, Int.reduceLT, Int.reduceLE, Int.reduceGT, Int.reduceGE, Int.reduceAdd, Int.reduceSub, Int.reduceMul, Int.reduceNeg, Int.reduceEq, Int.reduceNe, Int.reduceBNe, Int.reduceBEq, Int.reduceDiv]
    refine ex_call (by exact h) ?_
    simp only [go_sem, ↓reduceIte, Nat.reduceLT, Nat.reduceLeDiff, Nat.reduceAdd, Nat.reduceSub, Nat.reduceMul, Nat.reduceEqDiff, Nat.reduceBEq, Nat.reduceMod, Nat.reduceDiv, Int.reduceToNat, reduceCtorEq, Int.reduceLT, Int.reduceLE, Int.reduceGT, Int.reduceGE, Int.reduceAdd, Int.reduceSub, Int.reduceMul, Int.reduceNeg, Int.reduceEq, Int.reduceNe, Int.reduceBNe, Int.reduceBEq, Int.reduceDiv]
    refine finTup ?_
    show resOf _ _ [.cell 2 26, .tmp 3, .tmp 4] = _
    simp only [go_sem, ↓reduceIte, Nat.reduceLT, Nat.reduceLeDiff, Nat.reduceAdd, Nat.reduceSub, Nat.reduceMul, Nat.reduceEqDiff, Nat.reduceBEq, Nat.reduceMod, Nat.reduceDiv, Int.reduceToNat, reduceCtorEq, Int.reduceLT, Int.reduceLE, Int.reduceGT, Int.reduceGE, Int.reduceAdd, Int.reduceSub, Int.reduceMul, Int.reduceNeg, Int.reduceEq, Int.reduceNe, Int.reduceBNe, Int.reduceBEq, Int.reduceDiv]
  | ok r =>
    obtain ⟨it, k⟩ := r
    rw [hp] at h
    unfold resP at h
    refine contract_of (C := cf 10 [0, 2, 3, 4] (fun _ => [])) (cf_ok _ _ _) (fn := Try.f7) Try.func7 (by kernel_rfl) rfl (by kernel_rfl) (by simp [cf]) (plain1 (.str _)) (by decide) (cellsOk (by kernel_rfl)) ?_
    simp only [go_sem, ↓reduceIte, Nat.reduceLT, Nat.reduceLeDiff, Nat.reduceAdd, Nat.reduceSub, Nat.reduceMul, Nat.reduceEqDiff, Nat.reduceBEq, Nat.reduceMod, Nat.reduceDiv, Int.reduceToNat, reduceCtorEq, Int.reduceLT, Int.reduceLE, Int.reduceGT, Int.reduceGE, Int.reduceAdd, Int.reduceSub, Int.reduceMul, Int.reduceNeg, Int.reduceEq, Int.reduceNe, Int.reduceBNe, Int.reduceBEq, Int.reduceDiv]
    refine ex_call (by exact h) ?_
    simp only [go_sem, ↓reduceIte, Nat.reduceLT, Nat.reduceLeDiff, Nat.reduceAdd, Nat.reduceSub, Nat.reduceMul, Nat.reduceEqDiff, Nat.reduceBEq, Nat.reduceMod, Nat.reduceDiv, Int.reduceToNat, reduceCtorEq, Int.reduceLT, Int.reduceLE, Int.reduceGT, Int.reduceGE, Int.reduceAdd, Int.reduceSub, Int.reduceMul, Int.reduceNeg, Int.reduceEq, Int.reduceNe, Int.reduceBNe, Int.reduceBEq, Int.reduceDiv]
    refine finTup ?_
    show resOf _ _ [.cell 2 26, .tmp 3, .tmp 4] = _
    simp only [go_sem, ↓reduceIte, Nat.reduceLT, Nat.reduceLeDiff, Nat.reduceAdd, Nat.reduceSub, Nat.reduceMul, Nat.reduceEqDiff, Nat.reduceBEq, Nat.reduceMod, Nat.reduceDiv, Int.reduceToNat, reduceCtorEq, Int.reduceLT, Int.reduceLE, Int.reduceGT, Int.reduceGE, Int.reduceAdd, Int.reduceSub, Int.reduceMul, Int.reduceNeg, Int.reduceEq, Int.reduceNe, Int.reduceBNe, Int.reduceBEq, Int.reduceDiv]
theorem parse_itok {s : List UInt8} {it : ItemD} {k : Nat} (hs : s.length ≤ 4194304) (h : parse 0 s = .ok (it, k)) : it.ok := by
  have := (parse_ok h).wt
  have := (parse_ok h).le
  unfold ItemD.ok; omega
end Go.Proofs.Ytdenldjlijoeoaa.VA
end
section
/- Functions that write over the rows of what they are given: what is kept. -/
namespace Go.Proofs.Ytdenldjlijoeoaa.VA
open Go.RowKit
set_option linter.unusedSimpArgs false
set_option linter.unusedVariables false

/-- What a cell may turn to: a value of its kind; a slice: the nil slice. -/
inductive Kin : Value → Value → Prop
  | same (v : Value) : Kin v v
  | int (k : IntKind) (a b : Int) : Kin (.int k a) (.int k b)
  | str (s t : ByteArray) : Kin (.string s) (.string t)
  | bool (a b : Bool) : Kin (.bool a) (.bool b)
  | nil (b : Option Addr) (n c : Nat) : Kin (.slice b n c) (.slice none 0 0)
/-- The cells of the blocks B are as they were, but for their kinds. -/
structure Sp (I : Imm) (B : Nat → Prop) (w : World) : Prop where
  cells : ∀ b o u, B b → I b o = some u → ∃ u', w.cell? ⟨b, o, none⟩ = some u' ∧ w.frozen? ⟨b, o, none⟩ = false ∧ Kin u u'
/-- A value as it stands now: its cells are of the kinds that they had. -/
def KinV (v v' : Value) : Prop := v.cells.size = v'.cells.size ∧ ∀ (j : Nat) u u', v.cells[j]? = some u → v'.cells[j]? = some u' → Kin u u'

theorem cells_eq {M N : Nat → Prop} {I : Imm} {e : AV} {v v' : Value} (h : AR M I e v) (h' : AR N I e v') (hc : v.cells = v'.cells) : v = v' := by
  rcases h.kind with ⟨cs, vs, rfl, rfl, _⟩ | ⟨h1, h2⟩
  · cases h' with
    | agg _ vs' => rw [show vs = vs' from hc]
  · rcases h'.kind with ⟨cs, vs', rfl, rfl, _⟩ | ⟨h1', _⟩
    · cases h; cases h1
    · rw [cells_one h1, cells_one h1'] at hc
      simpa using hc
/-- The least set of blocks that a value leans on. -/
theorem AR.least {I : Imm} {x : AV} {v : Value} (h : AR (fun _ => True) I x v) : Wide x → ∀ N : Nat → Prop, (∀ b, (∀ M, AR M I x v → M b) → (∃ o u, I b o = some u) → N b) → AR N I x v := by
  induction h with
  | bool b => exact fun _ _ _ => .bool b
  | int k n => exact fun _ _ _ => .int k n
  | str s => exact fun _ _ _ => .str s
  | fn f => exact fun hw => by cases hw
  | nilf => exact fun hw => by cases hw
  | agg cs vs hl h1 hc ih =>
    intro hw N hN
    cases hw with
    | agg _ hw =>
      refine .agg cs vs hl h1 fun j c u hj hu => ih j c u hj hu (hw c (List.mem_of_getElem? hj)) N fun b hb => hN b fun M hM => hb M ?_
      cases hM with
      | agg _ _ _ _ hM => exact hM j c u hj hu
  | slnil fr sz base cap => exact fun _ _ _ => .slnil fr sz base cap
  | sl fr sz es b o n cap hn hc vs hv hz hI _ ih =>
    intro hw N hN
    cases hw with
    | sl _ _ _ h0 hw =>
      cases es with
      | nil => subst hn; exact .slnil fr sz _ _
      | cons e0 es =>
        have hcell : ∃ o u, I b o = some u := by
          have hs := hz 0 (by simp)
          exact ⟨_, _, hI 0 0 _ (by simp) (Array.getElem?_eq_getElem (by rw [hs]; exact h0))⟩
        have inv : ∀ M, AR M I (.sl fr sz (e0 :: es)) (.slice (some ⟨b, o, none⟩) n cap) → (fr = true → M b) ∧ ∀ (i : Nat) e, (e0 :: es)[i]? = some e → AR M I e (vs i) := by
          intro M hM
          cases hM with
          | sl _ _ _ _ _ _ _ _ _ vs' hv' hz' hI' hM' =>
            refine ⟨hM', fun i e he => ?_⟩
            have hi := (List.getElem?_eq_some_iff.1 he).1
            have e1 : vs i = vs' i := by
              refine cells_eq (hv i e he) (hv' i e he) (Array.ext (by rw [hz i hi, hz' i hi]) fun j h1 h2 => ?_)
              have q1 := hI i j _ hi (Array.getElem?_eq_getElem h1)
              have q2 := hI' i j _ hi (Array.getElem?_eq_getElem h2)
              rw [q1] at q2
              exact Option.some.inj q2
            rw [e1]; exact hv' i e he
        refine .sl fr sz _ b o n cap hn hc vs (fun i e he => ih i e he (hw e (List.mem_of_getElem? he)) N fun c hb => hN c fun M hM => hb M ((inv M hM).2 i e he)) hz hI fun e => hN b (fun M hM => (inv M hM).1 e) hcell
  | ext => exact fun hw => by cases hw
  | hd => exact fun hw => by cases hw

/-- A row of the value, as it stands now. -/
theorem row_now {I : Imm} {B : Nat → Prop} {sz : Nat} {es : List AV} {u u' : Value} (h : AR B I (.sl true sz es) u) (hk : Kin u u') : ∃ base n cap, u' = .slice base n cap ∧ (n = 0 ∨ (n = es.length ∧ ∃ b o, base = some ⟨b, o, none⟩ ∧ B b ∧ ∃ vs : Nat → Value,
    (∀ (i : Nat) e, es[i]? = some e → AR B I e (vs i)) ∧ (∀ i, i < es.length → (vs i).cells.size = sz) ∧ ∀ (i j : Nat) c, i < es.length → (vs i).cells[j]? = some c → I b (o + i * sz + j) = some c)) := by
  cases h with
  | slnil fr sz base cap =>
    cases hk with
    | same => exact ⟨_, _, _, rfl, .inl rfl⟩
    | nil => exact ⟨_, _, _, rfl, .inl rfl⟩
  | sl fr sz es b o n cap hn hc vs hv hz hI hM =>
    cases hk with
    | same => exact ⟨_, _, _, rfl, .inr ⟨hn, b, o, rfl, hM rfl, vs, hv, hz, hI⟩⟩
    | nil => exact ⟨_, _, _, rfl, .inl rfl⟩

/-- Between two stores. -/
structure SpG (I : Imm) (B : Nat → Prop) (w0 w : World) : Prop where
  fr : Fr w0 w B
  sp : Sp I B w
theorem SpG.grow {I : Imm} {B : Nat → Prop} {w0 w w' : World} (h : SpG I B w0 w) (hw : Fr w w' fun _ => False) : SpG I B w0 w' where
  fr := fr_trans h.fr hw.os hw.tape hw.output hw.size (fun k hk _ => hw.block k (Nat.lt_of_lt_of_le hk h.fr.size) id) hw.new
  sp := ⟨fun b o u hb hu => by
    obtain ⟨u', h1, h2, h3⟩ := h.sp.cells b o u hb hu
    have hlt : b < w.heap.size := World.block_lt_of_cell? w _ h1
    have e := hw.block b hlt id
    exact ⟨u', by rw [World.cell?_of_block e]; exact h1, by rw [World.frozen?_of_block e]; exact h2, h3⟩⟩
theorem SpG.called {I : Imm} {B : Nat → Prop} {w0 w w' : World} (h : SpG I B w0 w) (hw : SpG I B w w') : SpG I B w0 w' where
  fr := fr_trans h.fr hw.fr.os hw.fr.tape hw.fr.output hw.fr.size (fun k hk hn => hw.fr.block k (Nat.lt_of_lt_of_le hk h.fr.size) hn) hw.fr.new
  sp := hw.sp
/-- Cells of a block of B are written over, by values of their kinds. -/
theorem SpG.write {I : Imm} {B : Nat → Prop} {w0 w : World} (h : SpG I B w0 w) {b off : Nat} {vals : List Value} (hb : B b) (hc : ∀ j, j < vals.length → (w.cell? ⟨b, off + j, none⟩).isSome = true)
    (hk : ∀ (j : Nat) u v, I b (off + j) = some u → vals[j]? = some v → Kin u v) : SpG I B w0 (w.setCells b off vals) := by
  have hW := wr_setCells w b off vals hc
  refine ⟨fr_trans h.fr hW.os hW.tape hW.output (Nat.le_of_eq hW.size.symm) (fun k hk hn => hW.block k fun e => by subst e; exact hn hb) fun k o u hu => .inl ⟨hW.dom k o u hu, hW.frz _⟩, ⟨fun b' o u hb' hu => ?_⟩⟩
  obtain ⟨u', h1, h2, h3⟩ := h.sp.cells b' o u hb' hu
  rw [hW.frz]
  by_cases e : b' = b
  · subst e
    by_cases hin : off ≤ o ∧ o < off + vals.length
    · have e1 := hW.cin (o - off) (by omega)
      rw [show off + (o - off) = o by omega] at e1
      have hlt : o - off < vals.length := by omega
      rw [e1, List.getElem?_eq_getElem hlt]
      exact ⟨_, rfl, h2, hk (o - off) u _ (by rw [show off + (o - off) = o by omega]; exact hu) (List.getElem?_eq_getElem hlt)⟩
    · rw [hW.cout o (by omega)]; exact ⟨u', h1, h2, h3⟩
  · rw [hW.cell_ne e]; exact ⟨u', h1, h2, h3⟩
/-! Loads and stores of whole elements, one step each. -/
theorem wpList_load {P : Program} {ops : Array Oper} {rest : List Oper} {o : Oper} {a : Act} {w : World} {Q : Exit → Act → World → Prop} (hgd : o.guard = none) (T : TypeId) (x : Operand) (ho : o.op = .load T x) {p : Addr} (hp : a.eval x = .pointer (some p)) {v : Value}
    (hr : (Go.loadVar T p).run P w = .ok v w) (h : wpList P ops Q rest (a.put o.dst v) w) : wpList P ops Q (o :: rest) a w :=
  wpList_plain hgd fun _ hK => by
    unfold Oper.wp execOp
    simp only [ho, Sem.run_bind, Sem.run_pure, Result.andThen_ok, run_loadAt hp hr]
    exact hK _ _ h
theorem wpList_store {P : Program} {ops : Array Oper} {rest : List Oper} {o : Oper} {a : Act} {w w' : World} {Q : Exit → Act → World → Prop} (hgd : o.guard = none) (T : TypeId) (p x : Operand) (ho : o.op = .store T p x) (hd : o.dst = none) {u v : Value} (hp : a.eval p = u) (hx : a.eval x = v)
    (hr : (Instr.storeAt T u v).run P w = .ok () w') (h : wpList P ops Q rest a w') : wpList P ops Q (o :: rest) a w :=
  wpList_plain hgd fun _ hK => by
    unfold Oper.wp execOp
    simp only [ho, Sem.run_bind, Sem.run_pure, Result.andThen_ok, hp, hx, hr]
    exact hK _ _ (by rw [hd]; exact h)
/-- What a function that writes over its argument must do, at any time, for a Spoil. -/
theorem spoil_of {P : Program} {f : FuncId} {x : AV} (hw : Wide x) (he : ∃ fn c, P.funcs[f]? = some fn ∧ (fn.name == "runtime.NumGoroutine") = false ∧ fn.body = some c)
    (h : ∀ (I : Imm) (B : Nat → Prop) (w : World) (v : Value), AR B I x v → Sp I B w → (∀ b, B b → b < w.heap.size) → Calls P f #[v] w fun e w' => e = .returned (.tuple #[]) ∧ SpG I B w w') : Spoil P f x where
  wide := hw
  enters := he
  calls I w v hI hx hz := by
    have hB := hx.least hw (fun b => (∀ M, AR M I x v → M b) ∧ ∃ o u, I b o = some u) fun b h1 h2 => ⟨h1, h2⟩
    refine (h I _ w v hB ⟨fun b o u hb hu => ⟨u, hI b o u hu, hz b hb.1 o u hu, .same u⟩⟩ fun b hb => ?_).mono fun e w' hq => ⟨hq.1, hq.2.fr⟩
    obtain ⟨o, u, hu⟩ := hb.2
    exact World.block_lt_of_cell? w _ (hI b o u hu)
end Go.Proofs.Ytdenldjlijoeoaa.VA
end
section
/- tarnlaw0.Tx writes over a transaction's rows, and over nothing else. -/
namespace Go.Proofs.Ytdenldjlijoeoaa.VA
open Go.RowKit
set_option linter.unusedSimpArgs false
set_option linter.unusedVariables false

/-- Row by row: what is told of a slice of cells of one kind, in blocks that may be written. -/
def RowAt (I : Imm) (B : Nat → Prop) (ok : Value → Prop) (base : Option Addr) (n : Nat) : Prop :=
  n = 0 ∨ ∃ b o, base = some ⟨b, o, none⟩ ∧ B b ∧ ∀ i, i < n → ∃ u, I b (o + i) = some u ∧ ok u
set_option maxHeartbeats 8000000 in
set_option maxRecDepth 1000000 in
theorem walk_Tx (I : Imm) (B : Nat → Prop) (w : World) (c0 c1 c2 c3 c4 c5 c6 c7 c8 c9 c10 c11 c12 c13 c14 c15 c16 c17 c18 : Value) (hb : Option Addr) (hn hc : Nat) (bb : Option Addr) (bn bc : Nat)
    (hm : hn ≤ 9223372036854775807) (bm : bn ≤ 9223372036854775807)
    (h1 : RowAt I B (fun u => ∃ n, u = .int .u64 n) hb hn) (h2 : RowAt I B (fun u => ∃ s, u = .string s) bb bn) (hs : Sp I B w) (hB : ∀ b, B b → b < w.heap.size) :
    Calls Try.prog 18 #[.agg #[c0, c1, c2, c3, c4, c5, c6, c7, c8, c9, c10, c11, c12, c13, c14, c15, c16, c17, c18, .slice hb hn hc, .slice bb bn bc]] w fun e w' => e = .returned (.tuple #[]) ∧ SpG I B w w' := by
  obtain ⟨W, hW⟩ : ∃ W : World, W = w.alloc (.cells #[c0, c1, c2, c3, c4, c5, c6, c7, c8, c9, c10, c11, c12, c13, c14, c15, c16, c17, c18, .slice hb hn hc, .slice bb bn bc] 49) := ⟨_, rfl⟩
  have hg0 : SpG I B w W := by
    rw [hW]
    exact SpG.grow ⟨fr_refl _ _, hs⟩ (fr_alloc w _ fun j u _ => World.frozen?_alloc_new w _ _ j)
  have h19 : W.cell? ⟨w.heap.size, 19, none⟩ = some (.slice hb hn hc) := by rw [hW, World.cell?_alloc_new]; rfl
  have h20 : W.cell? ⟨w.heap.size, 20, none⟩ = some (.slice bb bn bc) := by rw [hW, World.cell?_alloc_new]; rfl
  go_enter Try.func18, Try.ntmps18
  go_wp2
  rw [← hW]
  have hBk : ∀ b, B b → b ≠ w.heap.size := fun b hb e => by
    have := hB b hb
    omega
  clear hW hs hB
  obtain ⟨k0, hk0⟩ : ∃ k0, k0 = w.heap.size := ⟨_, rfl⟩
  rw [← hk0] at h19 h20 hBk ⊢
  clear hk0
  refine wp_loop_ghost (fun n a w' => ∃ (i : Nat) (x4 x5 x6 x7 x8 x9 x10 x11 x12 x13 x14 : Value), (i ≤ hn ∧ n = hn - i) ∧ a = { tmps := #[.agg #[c0, c1, c2, c3, c4, c5, c6, c7, c8, c9, c10, c11, c12, c13, c14, c15, c16, c17, c18, .slice hb hn hc, .slice bb bn bc], .pointer (some ⟨k0, 0, none⟩), .int .i64 i, undef, x4, x5, x6, x7, x8, x9, x10, x11, x12, x13, x14, undef, undef, undef, undef, undef, undef, undef, undef, undef, undef, undef], defers := [] } ∧
    SpG I B w w' ∧ w'.cell? ⟨k0, 19, none⟩ = some (.slice hb hn hc) ∧ w'.cell? ⟨k0, 20, none⟩ = some (.slice bb bn bc)) hn ⟨0, _, _, _, _, _, _, _, _, _, _, _, ⟨Nat.zero_le _, rfl⟩, rfl, hg0, h19, h20⟩ ?_
  clear hg0 h19 h20
  rintro n a w' ⟨i, x4, x5, x6, x7, x8, x9, x10, x11, x12, x13, x14, ⟨hi, hni⟩, rfl, hg, h19, h20⟩
  have A : Aside (n = hn - i) := hni
  clear hni
  rcases Nat.lt_or_ge i hn with hlt | hge
  · rcases h1 with h1 | ⟨b, o, rfl, hBb, hrow⟩
    · omega
    obtain ⟨u, hu, nn, rfl⟩ := hrow i hlt
    obtain ⟨u', q1, q2, q3⟩ := hg.sp.cells b (o + i) _ hBb hu
    have Q : Aside (I b (o + i) = some (.int .u64 nn) ∧ SpG I B w w' ∧ B b) := ⟨hu, hg, hBb⟩
    clear hu hg hrow hBb
    go_wp2
    obtain ⟨hu, hg, hBb⟩ := Q.out
    have hni := A.out
    have hne : k0 ≠ b := fun e => hBk b hBb e.symm
    refine ⟨hn - (i + 1), by omega, i + 1, _, _, _, _, _, _, _, _, _, _, _, ⟨by omega, rfl⟩, rfl, ?_, ?_, ?_⟩
    · refine hg.write (off := o + i) (vals := [.int .u64 99]) hBb (fun j hj => ?_) (fun j u v hu' hv => ?_)
      · obtain rfl : j = 0 := by simpa using hj
        rw [Nat.add_zero, q1]; rfl
      · obtain ⟨rfl, rfl⟩ := lget_one hv
        rw [Nat.add_zero, hu] at hu'
        cases hu'
        exact .int _ _ _
    · exact (World.cell?_setCells_out b [_] (o + i) w' ⟨k0, 19, none⟩ (fun e _ => absurd e hne)).trans h19
    · exact (World.cell?_setCells_out b [_] (o + i) w' ⟨k0, 20, none⟩ (fun e _ => absurd e hne)).trans h20
  · go_wp2
    clear A hge hi h19
    refine wp_loop_ghost (fun n a w' => ∃ (i : Nat) (x2 x4 x5 x6 x7 x8 x9 x10 x11 x12 x13 x14 x15 x16 x17 x18 x19 x20 x21 x22 x23 x24 x25 : Value), (i ≤ bn ∧ n = bn - i) ∧ a = { tmps := #[.agg #[c0, c1, c2, c3, c4, c5, c6, c7, c8, c9, c10, c11, c12, c13, c14, c15, c16, c17, c18, .slice hb hn hc, .slice bb bn bc], .pointer (some ⟨k0, 0, none⟩), x2, .int .i64 i, x4, x5, x6, x7, x8, x9, x10, x11, x12, x13, x14, x15, x16, x17, x18, x19, x20, x21, x22, x23, x24, x25], defers := [] } ∧
      SpG I B w w' ∧ w'.cell? ⟨k0, 20, none⟩ = some (.slice bb bn bc)) bn ⟨0, _, _, _, _, _, _, _, _, _, _, _, _, _, _, _, _, _, _, _, _, _, _, _, ⟨Nat.zero_le _, rfl⟩, rfl, hg, h20⟩ ?_
    clear hg h20
    rintro n a w' ⟨i, x2, x4, x5, x6, x7, x8, x9, x10, x11, x12, x13, x14, x15, x16, x17, x18, x19, x20, x21, x22, x23, x24, x25, ⟨hi, hni⟩, rfl, hg, h20⟩
    have A : Aside (n = bn - i) := hni
    clear hni
    rcases Nat.lt_or_ge i bn with hlt | hge
    · rcases h2 with h2 | ⟨b, o, rfl, hBb, hrow⟩
      · omega
      obtain ⟨u, hu, nn, rfl⟩ := hrow i hlt
      obtain ⟨u', q1, q2, q3⟩ := hg.sp.cells b (o + i) _ hBb hu
      have Q : Aside (I b (o + i) = some (.string nn) ∧ SpG I B w w' ∧ B b) := ⟨hu, hg, hBb⟩
      clear hu hg hrow hBb
      go_wp2
      obtain ⟨hu, hg, hBb⟩ := Q.out
      have hni := A.out
      have hne : k0 ≠ b := fun e => hBk b hBb e.symm
      refine ⟨bn - (i + 1), by omega, i + 1, _, _, _, _, _, _, _, _, _, _, _, _, _, _, _, _, _, _, _, _, _, _, _, ⟨by omega, rfl⟩, rfl, ?_, ?_⟩
      · refine hg.write (off := o + i) (vals := [.string ⟨#[63]⟩]) hBb (fun j hj => ?_) (fun j u v hu' hv => ?_)
        · obtain rfl : j = 0 := by simpa using hj
          rw [Nat.add_zero, q1]; rfl
        · obtain ⟨rfl, rfl⟩ := lget_one hv
          rw [Nat.add_zero, hu] at hu'
          cases hu'
          exact .str _ _
      · exact (World.cell?_setCells_out b [_] (o + i) w' ⟨k0, 20, none⟩ (fun e _ => absurd e hne)).trans h20
    · go_wp2
      go_end0
      exact ⟨rfl, hg⟩
theorem arr21 (a : Array Value) (h : a.size = 21) : ∃ c0 c1 c2 c3 c4 c5 c6 c7 c8 c9 c10 c11 c12 c13 c14 c15 c16 c17 c18 c19 c20, a = #[c0, c1, c2, c3, c4, c5, c6, c7, c8, c9, c10, c11, c12, c13, c14, c15, c16, c17, c18, c19, c20] := by
  rcases a with ⟨l⟩
  match l, h with
  | [c0, c1, c2, c3, c4, c5, c6, c7, c8, c9, c10, c11, c12, c13, c14, c15, c16, c17, c18, c19, c20], _ => exact ⟨c0, c1, c2, c3, c4, c5, c6, c7, c8, c9, c10, c11, c12, c13, c14, c15, c16, c17, c18, c19, c20, rfl⟩
theorem KinV.agg {vs : Array Value} {v' : Value} (h : KinV (.agg vs) v') (hs : 2 ≤ vs.size) : ∃ vs', v' = .agg vs' ∧ vs'.size = vs.size ∧ ∀ (j : Nat) u u', vs[j]? = some u → vs'[j]? = some u' → Kin u u' := by
  obtain ⟨h1, h2⟩ := h
  have h1 : vs.size = v'.cells.size := h1
  cases v' with
  | agg vs' => exact ⟨vs', rfl, h1.symm, h2⟩
  | tuple vs' => simp [Value.cells] at h1; omega
  | _ => simp [Value.cells] at h1; omega
theorem row_at {I : Imm} {B : Nat → Prop} {α : Type} {f : α → AV} {l : List α} {ok : Value → Prop} {u u' : Value} (h : AR B I (.sl true 1 (l.map f)) u) (hk : Kin u u') (hf : ∀ x v, AR B I (f x) v → v.oneCell' = true ∧ ok v) :
    ∃ base n cap, u' = .slice base n cap ∧ n ≤ l.length ∧ RowAt I B ok base n := by
  obtain ⟨base, n, cap, rfl, hr⟩ := row_now h hk
  refine ⟨base, n, cap, rfl, ?_⟩
  rcases hr with rfl | ⟨hn, b, o, rfl, hb, vs, hv, hz, hI⟩
  · exact ⟨Nat.zero_le _, .inl rfl⟩
  · rw [List.length_map] at hn
    refine ⟨by omega, .inr ⟨b, o, rfl, hb, fun i hi => ?_⟩⟩
    have hi' : i < (l.map f).length := by rw [List.length_map]; omega
    obtain ⟨x, ex⟩ : ∃ x, l[i]? = some x := ⟨_, List.getElem?_eq_getElem (by omega)⟩
    obtain ⟨q1, q2⟩ := hf x _ (hv i (f x) (by rw [List.getElem?_map, ex]; rfl))
    refine ⟨vs i, ?_, q2⟩
    have := hI i 0 (vs i) hi' (by rw [cells_one q1]; rfl)
    rw [Nat.mul_one, Nat.add_zero] at this
    exact this
/-- tarnlaw0.Tx, at a transaction as it stands now. -/
theorem calls_Tx {I : Imm} {B : Nat → Prop} {w : World} {cs : List AV} {hs : List Int} {bs : List (List UInt8)} {v v' : Value} (hx : AR B I (.agg cs) v) (hlen : cs.length = 21) (h19 : cs[19]? = some (.sl true 1 (hs.map (AV.int .u64)))) (h20 : cs[20]? = some (.sl true 1 (bs.map AV.str)))
    (hm : hs.length ≤ 9223372036854775807) (bm : bs.length ≤ 9223372036854775807) (hk : KinV v v') (hsp : Sp I B w) (hB : ∀ b, B b → b < w.heap.size) :
    Calls Try.prog 18 #[v'] w fun e w' => e = .returned (.tuple #[]) ∧ SpG I B w w' := by
  cases hx with
  | agg _ vs hl h1 hcs =>
    obtain ⟨vs', rfl, hs', hkk⟩ := hk.agg (by omega)
    obtain ⟨c0, c1, c2, c3, c4, c5, c6, c7, c8, c9, c10, c11, c12, c13, c14, c15, c16, c17, c18, c19, c20, rfl⟩ := arr21 vs' (by omega)
    have e19 := hcs 19 _ _ h19 (Array.getElem?_eq_getElem (by omega))
    have e20 := hcs 20 _ _ h20 (Array.getElem?_eq_getElem (by omega))
    obtain ⟨hb, hn, hc, rfl, n1, r1⟩ := row_at (ok := fun u => ∃ n, u = .int .u64 n) e19 (hkk 19 _ _ (Array.getElem?_eq_getElem (by omega)) rfl) (fun x v h => by cases h; exact ⟨rfl, _, rfl⟩)
    obtain ⟨bb, bn, bc, rfl, n2, r2⟩ := row_at (ok := fun u => ∃ s, u = .string s) e20 (hkk 20 _ _ (Array.getElem?_eq_getElem (by omega)) rfl) (fun x v h => by cases h; exact ⟨rfl, _, rfl⟩)
    exact walk_Tx I B w _ _ _ _ _ _ _ _ _ _ _ _ _ _ _ _ _ _ _ hb hn hc bb bn bc (by omega) (by omega) r1 r2 hsp hB
end Go.Proofs.Ytdenldjlijoeoaa.VA
end
section
/- Products of numbers of 256 bits. -/
namespace Go.Proofs.Ytdenldjlijoeoaa.VA
set_option maxRecDepth 10000
set_option linter.unusedSimpArgs false
set_option linter.unusedVariables false
set_option maxHeartbeats 4000000

theorem and_mask (x : Nat) (hx : x < 18446744073709551616) : IntKind.u64.wrap ((BitVec.ofInt IntKind.u64.bits (x : Int) &&& BitVec.ofInt IntKind.u64.bits 4294967295).toNat : Int) = ((x % 4294967296 : Nat) : Int) := by
  have e : IntKind.u64.bits = 64 := rfl
  rw [e, show (4294967295 : Int) = ((4294967295 : Nat) : Int) from rfl, ofInt_nat, ofInt_nat, BitVec.toNat_and, BitVec.toNat_ofNat, BitVec.toNat_ofNat, Nat.mod_eq_of_lt (by simpa using hx)]
  have : x &&& 4294967295 % 2 ^ 64 = x % 4294967296 := by
    rw [show (4294967295 % 2 ^ 64 : Nat) = 2 ^ 32 - 1 from rfl, Nat.and_two_pow_sub_one_eq_mod]
  rw [this, wu64 (by omega) (by omega)]
theorem shr32 (x : Nat) : ((x : Int)).fdiv (2 ^ (min 32 IntKind.u64.bits)) = ((x / 4294967296 : Nat) : Int) := by
  rw [show (2 : Int) ^ (min 32 IntKind.u64.bits) = ((4294967296 : Nat) : Int) from by decide, Int.fdiv_eq_ediv_of_nonneg _ (by omega)]
  simp
theorem addw {p q : Nat} (h : p + q < 18446744073709551616) : IntKind.u64.wrap ((p : Int) + q) = ((p + q : Nat) : Int) := by
  rw [IntKind.wrap_u64]; omega
theorem mulw {p q : Nat} (h : p * q < 18446744073709551616) : IntKind.u64.wrap ((p : Int) * q) = ((p * q : Nat) : Int) := by
  rw [IntKind.wrap_u64]; rw [← Int.natCast_mul]; omega
theorem mul64_lo (x y : Nat) : IntKind.u64.wrap ((x : Int) * y) = ((x * y % 18446744073709551616 : Nat) : Int) := by
  rw [IntKind.wrap_u64]; simp
theorem mul_small {x y : Nat} (hx : x < 4294967296) (hy : y < 4294967296) : x * y ≤ 18446744065119617025 := by
  have : x * y ≤ 4294967295 * 4294967295 := Nat.mul_le_mul (by omega) (by omega)
  omega
theorem c_Mul64 (x y : Nat) (hx : x < 18446744073709551616) (hy : y < 18446744073709551616) :
    Contract Try.prog 78 [.int .u64 x, .int .u64 y] (.tup [.int .u64 ((x * y / 18446744073709551616 : Nat) : Int), .int .u64 ((x * y % 18446744073709551616 : Nat) : Int)]) := by
  obtain ⟨a, b, ha, hb, rfl⟩ : ∃ a b, a < 4294967296 ∧ b < 4294967296 ∧ x = a + 4294967296 * b := ⟨x % 4294967296, x / 4294967296, by omega, by omega, by omega⟩
  obtain ⟨c, d, hc, hd, rfl⟩ : ∃ a b, a < 4294967296 ∧ b < 4294967296 ∧ y = a + 4294967296 * b := ⟨y % 4294967296, y / 4294967296, by omega, by omega, by omega⟩
  have e1 := and_mask (a + 4294967296 * b) (by omega)
  have e2 := and_mask (c + 4294967296 * d) (by omega)
  rw [show (a + 4294967296 * b) % 4294967296 = a by omega] at e1
  rw [show (c + 4294967296 * d) % 4294967296 = c by omega] at e2
  have e3 := shr32 (a + 4294967296 * b)
  have e4 := shr32 (c + 4294967296 * d)
  rw [show (a + 4294967296 * b) / 4294967296 = b by omega] at e3
  rw [show (c + 4294967296 * d) / 4294967296 = d by omega] at e4
  have hp : (a + 4294967296 * b) * (c + 4294967296 * d) = a * c + 4294967296 * (b * c) + 4294967296 * (a * d) + 18446744073709551616 * (b * d) := by
    rw [Nat.add_mul, Nat.mul_add, Nat.mul_add, Nat.mul_assoc 4294967296 b c, Nat.mul_left_comm a 4294967296 d, Nat.mul_assoc 4294967296 b, Nat.mul_left_comm b 4294967296 d]
    omega
  have p1 := mul_small ha hc
  have p2 := mul_small hb hc
  have p3 := mul_small ha hd
  have p4 := mul_small hb hd
  refine contract_of (C := cf 51 [0, 1, 4, 5, 6, 7, 8, 9, 10, 11, 12, 13] (fun _ => [])) (cf_ok _ _ _) (fn := Try.f78) Try.func78 (by kernel_rfl) rfl (by kernel_rfl) (by simp [cf]) (plain2 (.int _ _) (.int _ _)) (by decide) (noCell (by kernel_rfl)) ?_
  have m1 := mulw (p := a) (q := c) (by omega)
  have m2 := mulw (p := b) (q := c) (by omega)
  have m3 := mulw (p := a) (q := d) (by omega)
  have m4 := mulw (p := b) (q := d) (by omega)
  have ml := mul64_lo (a + 4294967296 * b) (c + 4294967296 * d)
  have t1 := addw (p := b * c) (q := a * c / 4294967296) (by omega)
  have t2 := and_mask (b * c + a * c / 4294967296) (by omega)
  have t3 := addw (p := (b * c + a * c / 4294967296) % 4294967296) (q := a * d) (by omega)
  have t4 := addw (p := b * d) (q := (b * c + a * c / 4294967296) / 4294967296) (by omega)
  have t5 := addw (p := b * d + (b * c + a * c / 4294967296) / 4294967296) (q := ((b * c + a * c / 4294967296) % 4294967296 + a * d) / 4294967296) (by omega)
  simp only [cf, ex_seq, ex_block, ex_region, ex_ops_nil, ex_ops_cons, ex_ok, ex_need, ex_split_t, ex_split_f, ex_cond, ex_br_t, ex_br_f, ex_skip, ex_label, ex_scope, ex_exit, ex_ret, ex_keep, ex_inBlock_n, ex_inBlock_same, ex_inBlock_e, ex_inBlock_r, ex_code_e, ex_code_r, ex_rounds_e, ex_rounds_r, ex_ord_fin, ex_ord_quiet, ex_ord_one, ex_ord_unlock, ex_ord_lone, ex_ol, ex_oq_t, ex_oq_f, ex_nil, quietOp, loneOp, eltAddr, quietLoad, quietCallee, convQ, u8, moveR, moveTup, AV.isOwn, asU8, stepR, opR, ASt.rd, AV.seen, look, AV.const, AV.constC, AV.constG, AV.constCs, AV.constA, AV.nilOf, ASt.wr, Cfg.may, Cfg.round, roundQ, AV.dropR, AV.dropA, ASt.wrTo, R.chk, ASt.put, ASt.putOwn, ins, strike, consIf, keepL, keepV, AV.isBot, startSt, argsAt, allocR, ASt.newVar, AV.leansVar, AV.leans, AV.leansComp, assignR, ASt.take, ASt.takeO, ASt.at, cellAt, AV.compAt, ASt.drop, ASt.setCell, ASt.setCellO, ASt.dropComp, ASt.turn, binR, ASt.wrO, binInt, binAgg, isBoolK, isIntK, isSliceK, isFuncK, isInts, AV.eqInts, unVal, buildGo, partAt, partIn, placeOf, buildEnd, elemIn, elemsGo, elemsEnd, bsR, argOwnRef, argOwn, argImm, argsGo, callEnd, ASt.wrResTo, ASt.wrRes, pickR, boxR, loadOne, loadVar, wrImm, aggPart, AV.isAggV, loadElem, loadElt, loadR, storeOwn, AV.redir, redir, storeAl, storeRef, storeCells, storeVar, storePart, storeRow, storeElt, storeR, isU8, convBytes, convCont, convR, makeR, optI, cutSl, cutImm, cutStr, delV, ASt.freeVar, mkFnR, capR, capV, cutArr, cutR, addrR, structF, fieldR, idxSl, idxAddrR, idxR, extrOne, extrR, lenCont, lenR, appSrc, appRef, appTo, appR, maxR, fnOf, appKind, callFn, callLen, callApp, callMax, callR, grdO, grdT, TI.zeroVal, TK.isAgg, TK.known, Loc.plain, ASt.keep, ASt.imm, ASt.immRef, AV.isImm, AV.flat, AV.frz, AV.frz0, AV.mark, AV.elemsOf, AV.elemsO, ASt.cont, markFrom, putAt, resOf, resTup, resAll, resCons, resOne, resVar, resCells, resTmp, decide_true, decide_false, Bool.and_true, Bool.true_and, Bool.and_false, Bool.false_and, Bool.and_self, Bool.not_true, Bool.not_false, bq_t, bq_f, Bool.false_eq_true, Bool.true_eq_false, ↓reduceIte, Nat.reduceLT, Nat.reduceLeDiff, Nat.reduceAdd, Nat.reduceSub, Nat.reduceMul, Nat.reduceEqDiff, Nat.reduceBEq, Nat.lt_irrefl, Nat.zero_add, Nat.add_zero, Nat.mul_one, Nat.zero_mul, Nat.mul_zero, Nat.reduceMod, Nat.reduceDiv, Nat.zero_le, Nat.le_refl, Nat.beq, Int.reduceToNat, List.length_cons, List.length_nil, Option.isNone_none, Option.isNone_some, Option.bind_some, Option.bind_none, Option.map_some, Option.map_none, List.getElem?_cons_zero, List.getElem?_cons_succ, List.getElem?_nil, List.take_succ_cons, List.take_zero, List.take_nil, List.drop_succ_cons, List.drop_zero, List.drop_nil, List.map_cons, List.map_nil, List.cons_append, List.nil_append, List.append_nil, List.set_cons_zero, List.set_cons_succ, List.headD_cons, List.headD_nil, List.tail_cons, List.tail_nil, List.contains_cons, List.contains_nil, Bool.or_false, Bool.false_or, Bool.or_true, Bool.true_or, BEq.rfl, beq_self_eq_true, Nat.reduceBEq, List.replicate_zero, List.replicate_succ, List.isEmpty_nil, List.size_toArray, Array.isEmpty, List.reverse_nil, List.all_cons, List.all_nil, eq_self, true_and, and_true, false_and, and_false, and_self, not_true_eq_false, not_false_eq_true, reduceCtorEq, Loc.tmp.injEq, Loc.cell.injEq, Loc.comp.injEq, or_true, true_or, or_false, false_or, exists_const, Int.reduceLT, Int.reduceLE, Int.reduceGT, Int.reduceGE, Option.isSome_some, Option.isSome_none, Int.reduceAdd, Int.reduceSub, Int.reduceMul, Int.reduceNeg, Int.reduceEq, Int.reduceNe, Int.reduceBNe, Int.reduceBEq, ne_eq, Int.toNat_zero, Int.reduceDiv, forall_const, Nat.not_lt_zero, Nat.lt_add_one, ti1, ti2, ti3, ti4, ti5, ti6, ti7, ti8, ti9, ti10, ti11, ti12, ti13, ti14, ti21, ti22, ti23, ti24, ti25, ti26, ti27, ti28, ti29, ti31, ti33, ti34, ti35, ti36, ti38, ti39, ti40, ti41, ti42, ti43, ti44, ti45, ti46, ti47, ti48, ti49, ti50, ti51, ti53, ti55, ti56, ti57, ti58, ti59, ti60, ti61, ti62, ti64, ti65, ti66, ti67, ti68, ti70, ti72, ti74, ti75, ti76, ti77, ti78, ti79, ti80, ti82, ti83, ti84, ti85, ti86, ti87, ti89, ti90, ti91, ti92, ti93, ti94, ti95, ti96, ti97, ti98, ti99, ti100, ti101, ti102, ti103, ti104, ti105, ti106, ti107, ti108, ti109, ti110, ti111, ti112, ti113, ti114, ti115, ti116, ti118, ti120, ti121, ti122, ti123, ti124, ti125, ti126, ti128, ti129, ti130, ti131, ti137, ti138, ti139, ti140, ti141, ti143, ti144, e1, e2, e3, e4, m1, m2, m3, m4, ml, shr32, t1, t2, t3, t4, t5]
  refine finTup ?_
  show resOf _ _ [.tmp 4, .tmp 5] = _
  simp only [cf, ex_seq, ex_block, ex_region, ex_ops_nil, ex_ops_cons, ex_ok, ex_need, ex_split_t, ex_split_f, ex_cond, ex_br_t, ex_br_f, ex_skip, ex_label, ex_scope, ex_exit, ex_ret, ex_keep, ex_inBlock_n, ex_inBlock_same, ex_inBlock_e, ex_inBlock_r, ex_code_e, ex_code_r, ex_rounds_e, ex_rounds_r, ex_ord_fin, ex_ord_quiet, ex_ord_one, ex_ord_unlock, ex_ord_lone, ex_ol, ex_oq_t, ex_oq_f, ex_nil, quietOp, loneOp, eltAddr, quietLoad, quietCallee, convQ, u8, moveR, moveTup, AV.isOwn, asU8, stepR, opR, ASt.rd, AV.seen, look, AV.const, AV.constC, AV.constG, AV.constCs, AV.constA, AV.nilOf, ASt.wr, Cfg.may, Cfg.round, roundQ, AV.dropR, AV.dropA, ASt.wrTo, R.chk, ASt.put, ASt.putOwn, ins, strike, consIf, keepL, keepV, AV.isBot, startSt, argsAt, allocR, ASt.newVar, AV.leansVar, AV.leans, AV.leansComp, assignR, ASt.take, ASt.takeO, ASt.at, cellAt, AV.compAt, ASt.drop, ASt.setCell, ASt.setCellO, ASt.dropComp, ASt.turn, binR, ASt.wrO, binInt, binAgg, isBoolK, isIntK, isSliceK, isFuncK, isInts, AV.eqInts, unVal, buildGo, partAt, partIn, placeOf, buildEnd, elemIn, elemsGo, elemsEnd, bsR, argOwnRef, argOwn, argImm, argsGo, callEnd, ASt.wrResTo, ASt.wrRes, pickR, boxR, loadOne, loadVar, wrImm, aggPart, AV.isAggV, loadElem, loadElt, loadR, storeOwn, AV.redir, redir, storeAl, storeRef, storeCells, storeVar, storePart, storeRow, storeElt, storeR, isU8, convBytes, convCont, convR, makeR, optI, cutSl, cutImm, cutStr, delV, ASt.freeVar, mkFnR, capR, capV, cutArr, cutR, addrR, structF, fieldR, idxSl, idxAddrR, idxR, extrOne, extrR, lenCont, lenR, appSrc, appRef, appTo, appR, maxR, fnOf, appKind, callFn, callLen, callApp, callMax, callR, grdO, grdT, TI.zeroVal, TK.isAgg, TK.known, Loc.plain, ASt.keep, ASt.imm, ASt.immRef, AV.isImm, AV.flat, AV.frz, AV.frz0, AV.mark, AV.elemsOf, AV.elemsO, ASt.cont, markFrom, putAt, resOf, resTup, resAll, resCons, resOne, resVar, resCells, resTmp, decide_true, decide_false, Bool.and_true, Bool.true_and, Bool.and_false, Bool.false_and, Bool.and_self, Bool.not_true, Bool.not_false, bq_t, bq_f, Bool.false_eq_true, Bool.true_eq_false, ↓reduceIte, Nat.reduceLT, Nat.reduceLeDiff, Nat.reduceAdd, Nat.reduceSub, Nat.reduceMul, Nat.reduceEqDiff, Nat.reduceBEq, Nat.lt_irrefl, Nat.zero_add, Nat.add_zero, Nat.mul_one, Nat.zero_mul, Nat.mul_zero, Nat.reduceMod, Nat.reduceDiv, Nat.zero_le, Nat.le_refl, Nat.beq, Int.reduceToNat, List.length_cons, List.length_nil, Option.isNone_none, Option.isNone_some, Option.bind_some, Option.bind_none, Option.map_some, Option.map_none, List.getElem?_cons_zero, List.getElem?_cons_succ, List.getElem?_nil, List.take_succ_cons, List.take_zero, List.take_nil, List.drop_succ_cons, List.drop_zero, List.drop_nil, List.map_cons, List.map_nil, List.cons_append, List.nil_append, List.append_nil, List.set_cons_zero, List.set_cons_succ, List.headD_cons, List.headD_nil, List.tail_cons, List.tail_nil, List.contains_cons, List.contains_nil, Bool.or_false, Bool.false_or, Bool.or_true, Bool.true_or, BEq.rfl, beq_self_eq_true, Nat.reduceBEq, List.replicate_zero, List.replicate_succ, List.isEmpty_nil, List.size_toArray, Array.isEmpty, List.reverse_nil, List.all_cons, List.all_nil, eq_self, true_and, and_true, false_and, and_false, and_self, not_true_eq_false, not_false_eq_true, reduceCtorEq, Loc.tmp.injEq, Loc.cell.injEq, Loc.comp.injEq, or_true, true_or, or_false, false_or, exists_const, Int.reduceLT, Int.reduceLE, Int.reduceGT, Int.reduceGE, Option.isSome_some, Option.isSome_none, Int.reduceAdd, Int.reduceSub, Int.reduceMul, Int.reduceNeg, Int.reduceEq, Int.reduceNe, Int.reduceBNe, Int.reduceBEq, ne_eq, Int.toNat_zero, Int.reduceDiv, forall_const, Nat.not_lt_zero, Nat.lt_add_one, ti1, ti2, ti3, ti4, ti5, ti6, ti7, ti8, ti9, ti10, ti11, ti12, ti13, ti14, ti21, ti22, ti23, ti24, ti25, ti26, ti27, ti28, ti29, ti31, ti33, ti34, ti35, ti36, ti38, ti39, ti40, ti41, ti42, ti43, ti44, ti45, ti46, ti47, ti48, ti49, ti50, ti51, ti53, ti55, ti56, ti57, ti58, ti59, ti60, ti61, ti62, ti64, ti65, ti66, ti67, ti68, ti70, ti72, ti74, ti75, ti76, ti77, ti78, ti79, ti80, ti82, ti83, ti84, ti85, ti86, ti87, ti89, ti90, ti91, ti92, ti93, ti94, ti95, ti96, ti97, ti98, ti99, ti100, ti101, ti102, ti103, ti104, ti105, ti106, ti107, ti108, ti109, ti110, ti111, ti112, ti113, ti114, ti115, ti116, ti118, ti120, ti121, ti122, ti123, ti124, ti125, ti126, ti128, ti129, ti130, ti131, ti137, ti138, ti139, ti140, ti141, ti143, ti144]
  rw [hp, show (a * c + 4294967296 * (b * c) + 4294967296 * (a * d) + 18446744073709551616 * (b * d)) / 18446744073709551616 = b * d + (b * c + a * c / 4294967296) / 4294967296 + ((b * c + a * c / 4294967296) % 4294967296 + a * d) / 4294967296 from by generalize a * c = p at *; generalize b * c = q at *; generalize a * d = r at *; generalize b * d = t at *; omega]

theorem shr0 (x : Nat) : ((x : Int)).fdiv (2 ^ (min 0 IntKind.u64.bits)) = (x : Int) := by
  rw [show (2 : Int) ^ (min 0 IntKind.u64.bits) = 1 from by decide, Int.fdiv_one]
/-- A digit of 32 bits. -/
def dig (n i : Nat) : Nat := n / 2 ^ (32 * i) % 4294967296
theorem c_digit (n i : Nat) (hn : n < U) (hi : i < 8) : Contract Try.prog 75 [u n, .int .i64 i] (.int .u64 (dig n i : Nat)) := by
  obtain ⟨x0, x1, x2, x3, hx0, hx1, hx2, hx3, en⟩ := u_limbs n hn
  have hd : dig n i = (if i / 2 = 0 then x0 else if i / 2 = 1 then x1 else if i / 2 = 2 then x2 else x3) / 2 ^ (32 * (i % 2)) % 4294967296 := by
    unfold dig
    have : i = 0 ∨ i = 1 ∨ i = 2 ∨ i = 3 ∨ i = 4 ∨ i = 5 ∨ i = 6 ∨ i = 7 := by omega
    rcases this with rfl | rfl | rfl | rfl | rfl | rfl | rfl | rfl <;> simp <;> omega
  rw [u_eq hx0 hx1 hx2 hx3 en, hd]
  clear hd en hn
  have : i = 0 ∨ i = 1 ∨ i = 2 ∨ i = 3 ∨ i = 4 ∨ i = 5 ∨ i = 6 ∨ i = 7 := by omega
  refine contract_of (C := cf 14 [1, 2, 4] (fun _ => [])) (cf_ok _ _ _) (fn := Try.f75) Try.func75 (by kernel_rfl) rfl (by kernel_rfl) (by simp [cf]) (plain2 (u4_plain _ _ _ _) (.int _ _)) (by decide) (noCell (by kernel_rfl)) ?_
  rcases this with rfl | rfl | rfl | rfl | rfl | rfl | rfl | rfl
  all_goals simp only [cf, ex_seq, ex_block, ex_region, ex_ops_nil, ex_ops_cons, ex_ok, ex_need, ex_split_t, ex_split_f, ex_cond, ex_br_t, ex_br_f, ex_skip, ex_label, ex_scope, ex_exit, ex_ret, ex_keep, ex_inBlock_n, ex_inBlock_same, ex_inBlock_e, ex_inBlock_r, ex_code_e, ex_code_r, ex_rounds_e, ex_rounds_r, ex_ord_fin, ex_ord_quiet, ex_ord_one, ex_ord_unlock, ex_ord_lone, ex_ol, ex_oq_t, ex_oq_f, ex_nil, quietOp, loneOp, eltAddr, quietLoad, quietCallee, convQ, u8, moveR, moveTup, AV.isOwn, asU8, stepR, opR, ASt.rd, AV.seen, look, AV.const, AV.constC, AV.constG, AV.constCs, AV.constA, AV.nilOf, ASt.wr, Cfg.may, Cfg.round, roundQ, AV.dropR, AV.dropA, ASt.wrTo, R.chk, ASt.put, ASt.putOwn, ins, strike, consIf, keepL, keepV, AV.isBot, startSt, argsAt, allocR, ASt.newVar, AV.leansVar, AV.leans, AV.leansComp, assignR, ASt.take, ASt.takeO, ASt.at, cellAt, AV.compAt, ASt.drop, ASt.setCell, ASt.setCellO, ASt.dropComp, ASt.turn, binR, ASt.wrO, binInt, binAgg, isBoolK, isIntK, isSliceK, isFuncK, isInts, AV.eqInts, unVal, buildGo, partAt, partIn, placeOf, buildEnd, elemIn, elemsGo, elemsEnd, bsR, argOwnRef, argOwn, argImm, argsGo, callEnd, ASt.wrResTo, ASt.wrRes, pickR, boxR, loadOne, loadVar, wrImm, aggPart, AV.isAggV, loadElem, loadElt, loadR, storeOwn, AV.redir, redir, storeAl, storeRef, storeCells, storeVar, storePart, storeRow, storeElt, storeR, isU8, convBytes, convCont, convR, makeR, optI, cutSl, cutImm, cutStr, delV, ASt.freeVar, mkFnR, capR, capV, cutArr, cutR, addrR, structF, fieldR, idxSl, idxAddrR, idxR, extrOne, extrR, lenCont, lenR, appSrc, appRef, appTo, appR, maxR, fnOf, appKind, callFn, callLen, callApp, callMax, callR, grdO, grdT, TI.zeroVal, TK.isAgg, TK.known, Loc.plain, ASt.keep, ASt.imm, ASt.immRef, AV.isImm, AV.flat, AV.frz, AV.frz0, AV.mark, AV.elemsOf, AV.elemsO, ASt.cont, markFrom, putAt, resOf, resTup, resAll, resCons, resOne, resVar, resCells, resTmp, decide_true, decide_false, Bool.and_true, Bool.true_and, Bool.and_false, Bool.false_and, Bool.and_self, Bool.not_true, Bool.not_false, bq_t, bq_f, Bool.false_eq_true, Bool.true_eq_false, ↓reduceIte, Nat.reduceLT, Nat.reduceLeDiff, Nat.reduceAdd, Nat.reduceSub, Nat.reduceMul, Nat.reduceEqDiff, Nat.reduceBEq, Nat.lt_irrefl, Nat.zero_add, Nat.add_zero, Nat.mul_one, Nat.zero_mul, Nat.mul_zero, Nat.reduceMod, Nat.reduceDiv, Nat.zero_le, Nat.le_refl, Nat.beq, Int.reduceToNat, List.length_cons, List.length_nil, Option.isNone_none, Option.isNone_some, Option.bind_some, Option.bind_none, Option.map_some, Option.map_none, List.getElem?_cons_zero, List.getElem?_cons_succ, List.getElem?_nil, List.take_succ_cons, List.take_zero, List.take_nil, List.drop_succ_cons, List.drop_zero, List.drop_nil, List.map_cons, List.map_nil, List.cons_append, List.nil_append, List.append_nil, List.set_cons_zero, List.set_cons_succ, List.headD_cons, List.headD_nil, List.tail_cons, List.tail_nil, List.contains_cons, List.contains_nil, Bool.or_false, Bool.false_or, Bool.or_true, Bool.true_or, BEq.rfl, beq_self_eq_true, Nat.reduceBEq, List.replicate_zero, List.replicate_succ, List.isEmpty_nil, List.size_toArray, Array.isEmpty, List.reverse_nil, List.all_cons, List.all_nil, eq_self, true_and, and_true, false_and, and_false, and_self, not_true_eq_false, not_false_eq_true, reduceCtorEq, Loc.tmp.injEq, Loc.cell.injEq, Loc.comp.injEq, or_true, true_or, or_false, false_or, exists_const, Int.reduceLT, Int.reduceLE, Int.reduceGT, Int.reduceGE, Option.isSome_some, Option.isSome_none, Int.reduceAdd, Int.reduceSub, Int.reduceMul, Int.reduceNeg, Int.reduceEq, Int.reduceNe, Int.reduceBNe, Int.reduceBEq, ne_eq, Int.toNat_zero, Int.reduceDiv, forall_const, Nat.not_lt_zero, Nat.lt_add_one, ti1, ti2, ti3, ti4, ti5, ti6, ti7, ti8, ti9, ti10, ti11, ti12, ti13, ti14, ti21, ti22, ti23, ti24, ti25, ti26, ti27, ti28, ti29, ti31, ti33, ti34, ti35, ti36, ti38, ti39, ti40, ti41, ti42, ti43, ti44, ti45, ti46, ti47, ti48, ti49, ti50, ti51, ti53, ti55, ti56, ti57, ti58, ti59, ti60, ti61, ti62, ti64, ti65, ti66, ti67, ti68, ti70, ti72, ti74, ti75, ti76, ti77, ti78, ti79, ti80, ti82, ti83, ti84, ti85, ti86, ti87, ti89, ti90, ti91, ti92, ti93, ti94, ti95, ti96, ti97, ti98, ti99, ti100, ti101, ti102, ti103, ti104, ti105, ti106, ti107, ti108, ti109, ti110, ti111, ti112, ti113, ti114, ti115, ti116, ti118, ti120, ti121, ti122, ti123, ti124, ti125, ti126, ti128, ti129, ti130, ti131, ti137, ti138, ti139, ti140, ti141, ti143, ti144, Int.cast_ofNat_Int, wi64, Int.reduceTDiv, Int.reduceTMod]
  all_goals refine finOne ?_ (fun _ e => by cases e)
  all_goals show resOf _ _ [.tmp 4] = _
  all_goals simp only [cf, ex_seq, ex_block, ex_region, ex_ops_nil, ex_ops_cons, ex_ok, ex_need, ex_split_t, ex_split_f, ex_cond, ex_br_t, ex_br_f, ex_skip, ex_label, ex_scope, ex_exit, ex_ret, ex_keep, ex_inBlock_n, ex_inBlock_same, ex_inBlock_e, ex_inBlock_r, ex_code_e, ex_code_r, ex_rounds_e, ex_rounds_r, ex_ord_fin, ex_ord_quiet, ex_ord_one, ex_ord_unlock, ex_ord_lone, ex_ol, ex_oq_t, ex_oq_f, ex_nil, quietOp, loneOp, eltAddr, quietLoad, quietCallee, convQ, u8, moveR, moveTup, AV.isOwn, asU8, stepR, opR, ASt.rd, AV.seen, look, AV.const, AV.constC, AV.constG, AV.constCs, AV.constA, AV.nilOf, ASt.wr, Cfg.may, Cfg.round, roundQ, AV.dropR, AV.dropA, ASt.wrTo, R.chk, ASt.put, ASt.putOwn, ins, strike, consIf, keepL, keepV, AV.isBot, startSt, argsAt, allocR, ASt.newVar, AV.leansVar, AV.leans, AV.leansComp, assignR, ASt.take, ASt.takeO, ASt.at, cellAt, AV.compAt, ASt.drop, ASt.setCell, ASt.setCellO, ASt.dropComp, ASt.turn, binR, ASt.wrO, binInt, binAgg, isBoolK, isIntK, isSliceK, isFuncK, isInts, AV.eqInts, unVal, buildGo, partAt, partIn, placeOf, buildEnd, elemIn, elemsGo, elemsEnd, bsR, argOwnRef, argOwn, argImm, argsGo, callEnd, ASt.wrResTo, ASt.wrRes, pickR, boxR, loadOne, loadVar, wrImm, aggPart, AV.isAggV, loadElem, loadElt, loadR, storeOwn, AV.redir, redir, storeAl, storeRef, storeCells, storeVar, storePart, storeRow, storeElt, storeR, isU8, convBytes, convCont, convR, makeR, optI, cutSl, cutImm, cutStr, delV, ASt.freeVar, mkFnR, capR, capV, cutArr, cutR, addrR, structF, fieldR, idxSl, idxAddrR, idxR, extrOne, extrR, lenCont, lenR, appSrc, appRef, appTo, appR, maxR, fnOf, appKind, callFn, callLen, callApp, callMax, callR, grdO, grdT, TI.zeroVal, TK.isAgg, TK.known, Loc.plain, ASt.keep, ASt.imm, ASt.immRef, AV.isImm, AV.flat, AV.frz, AV.frz0, AV.mark, AV.elemsOf, AV.elemsO, ASt.cont, markFrom, putAt, resOf, resTup, resAll, resCons, resOne, resVar, resCells, resTmp, decide_true, decide_false, Bool.and_true, Bool.true_and, Bool.and_false, Bool.false_and, Bool.and_self, Bool.not_true, Bool.not_false, bq_t, bq_f, Bool.false_eq_true, Bool.true_eq_false, ↓reduceIte, Nat.reduceLT, Nat.reduceLeDiff, Nat.reduceAdd, Nat.reduceSub, Nat.reduceMul, Nat.reduceEqDiff, Nat.reduceBEq, Nat.lt_irrefl, Nat.zero_add, Nat.add_zero, Nat.mul_one, Nat.zero_mul, Nat.mul_zero, Nat.reduceMod, Nat.reduceDiv, Nat.zero_le, Nat.le_refl, Nat.beq, Int.reduceToNat, List.length_cons, List.length_nil, Option.isNone_none, Option.isNone_some, Option.bind_some, Option.bind_none, Option.map_some, Option.map_none, List.getElem?_cons_zero, List.getElem?_cons_succ, List.getElem?_nil, List.take_succ_cons, List.take_zero, List.take_nil, List.drop_succ_cons, List.drop_zero, List.drop_nil, List.map_cons, List.map_nil, List.cons_append, List.nil_append, List.append_nil, List.set_cons_zero, List.set_cons_succ, List.headD_cons, List.headD_nil, List.tail_cons, List.tail_nil, List.contains_cons, List.contains_nil, Bool.or_false, Bool.false_or, Bool.or_true, Bool.true_or, BEq.rfl, beq_self_eq_true, Nat.reduceBEq, List.replicate_zero, List.replicate_succ, List.isEmpty_nil, List.size_toArray, Array.isEmpty, List.reverse_nil, List.all_cons, List.all_nil, eq_self, true_and, and_true, false_and, and_false, and_self, not_true_eq_false, not_false_eq_true, reduceCtorEq, Loc.tmp.injEq, Loc.cell.injEq, Loc.comp.injEq, or_true, true_or, or_false, false_or, exists_const, Int.reduceLT, Int.reduceLE, Int.reduceGT, Int.reduceGE, Option.isSome_some, Option.isSome_none, Int.reduceAdd, Int.reduceSub, Int.reduceMul, Int.reduceNeg, Int.reduceEq, Int.reduceNe, Int.reduceBNe, Int.reduceBEq, ne_eq, Int.toNat_zero, Int.reduceDiv, forall_const, Nat.not_lt_zero, Nat.lt_add_one, ti1, ti2, ti3, ti4, ti5, ti6, ti7, ti8, ti9, ti10, ti11, ti12, ti13, ti14, ti21, ti22, ti23, ti24, ti25, ti26, ti27, ti28, ti29, ti31, ti33, ti34, ti35, ti36, ti38, ti39, ti40, ti41, ti42, ti43, ti44, ti45, ti46, ti47, ti48, ti49, ti50, ti51, ti53, ti55, ti56, ti57, ti58, ti59, ti60, ti61, ti62, ti64, ti65, ti66, ti67, ti68, ti70, ti72, ti74, ti75, ti76, ti77, ti78, ti79, ti80, ti82, ti83, ti84, ti85, ti86, ti87, ti89, ti90, ti91, ti92, ti93, ti94, ti95, ti96, ti97, ti98, ti99, ti100, ti101, ti102, ti103, ti104, ti105, ti106, ti107, ti108, ti109, ti110, ti111, ti112, ti113, ti114, ti115, ti116, ti118, ti120, ti121, ti122, ti123, ti124, ti125, ti126, ti128, ti129, ti130, ti131, ti137, ti138, ti139, ti140, ti141, ti143, ti144, shr0, shr32]
  all_goals rw [and_mask _ (by omega)]
  all_goals simp only [Nat.pow_zero, Nat.div_one, Nat.reducePow]

/-! Numbers by their digits. -/
def val (B : Nat) : List Nat → Nat
  | [] => 0
  | a :: l => a + B * val B l
theorem val_set (B : Nat) : ∀ (l : List Nat) (j a v : Nat), l[j]? = some a → val B (l.set j v) + a * B ^ j = val B l + v * B ^ j
  | [], j, a, v, h => by cases h
  | x :: l, 0, a, v, h => by
    simp only [List.getElem?_cons_zero, Option.some.injEq] at h
    subst h
    simp [val]; omega
  | x :: l, j + 1, a, v, h => by
    simp only [List.getElem?_cons_succ] at h
    have ih := val_set B l j a v h
    simp only [List.set_cons_succ, val, Nat.pow_succ]
    have := congrArg (B * ·) ih
    simp only [Nat.mul_add] at this
    have e1 : a * (B ^ j * B) = B * (a * B ^ j) := by rw [← Nat.mul_assoc, Nat.mul_comm]
    have e2 : v * (B ^ j * B) = B * (v * B ^ j) := by rw [← Nat.mul_assoc, Nat.mul_comm]
    omega
theorem val_zero (B n : Nat) : val B (List.replicate n 0) = 0 := by
  induction n with
  | zero => rfl
  | succ n ih => simp [List.replicate_succ, val, ih]
theorem putAt_set {α : Type} (f : α → AV) (l : List α) (j : Nat) (v : α) (h : j < l.length) : putAt (l.map f) j [f v] = (l.set j v).map f := by
  unfold putAt
  rw [List.map_set, List.set_eq_take_append_cons_drop, if_pos (by simpa using h)]
  simp
/-- A digit of a number. -/
def dg (B n i : Nat) : Nat := n / B ^ i % B
theorem dg_step (B n k : Nat) : n % B ^ (k + 1) = n % B ^ k + dg B n k * B ^ k := by
  unfold dg
  rw [Nat.pow_succ, Nat.mod_mul, Nat.mul_comm]
/-- One step of a product, by digits. -/
theorem mac {B V V' P out s c c' x y : Nat} (hs : s + B * c' = out + x * y + c) (hV : V' + out * P = V + s * P) : V' + c' * (P * B) = V + c * P + x * y * P := by
  have := congrArg (· * P) hs
  simp only [Nat.add_mul] at this
  have e : B * c' * P = c' * (P * B) := by rw [Nat.mul_comm B c', Nat.mul_assoc, Nat.mul_comm B P]
  omega
end Go.Proofs.Ytdenldjlijoeoaa.VA
end
section
/- The page's product, digit by digit. -/
namespace Go.Proofs.Ytdenldjlijoeoaa.VA
set_option maxRecDepth 10000
set_option linter.unusedSimpArgs false
set_option linter.unusedVariables false
set_option maxHeartbeats 8000000

def un (x : Nat) : AV := .int .u64 (x : Int)
/-- What a row of digits is, in the midst of a product. -/
structure Part (B w n m i : Nat) (out : List Nat) (V : Nat) : Prop where
  len : out.length = 2 * w
  lt : ∀ x ∈ out, x < B
  sum : val B out = V
  zero : ∀ j, i + w ≤ j → j < 2 * w → out[j]? = some 0
theorem Part.set {B w n m i V j v a : Nat} {out : List Nat} (h : Part B w n m i out V) (hj : j < i + w) (hv : v < B) (ha : out[j]? = some a) :
    Part B w n m i (out.set j v) (val B (out.set j v)) ∧ val B (out.set j v) + a * B ^ j = V + v * B ^ j := by
  refine ⟨⟨by rw [List.length_set]; exact h.len, fun x hx => ?_, rfl, fun k hk hk2 => ?_⟩, ?_⟩
  · rcases List.mem_or_eq_of_mem_set hx with hx | rfl
    · exact h.lt x hx
    · exact hv
  · rw [List.getElem?_set_ne (by omega)]
    exact h.zero k hk hk2
  · have := val_set B out j a v ha
    rw [h.sum] at this
    exact this
theorem Part.set9 {B w n m i V c : Nat} {out : List Nat} (h : Part B w n m i out V) (hi : i < w) (hc : c < B) :
    Part B w n m (i + 1) (out.set (i + w) c) (val B (out.set (i + w) c)) ∧ val B (out.set (i + w) c) + 0 * B ^ (i + w) = V + c * B ^ (i + w) := by
  refine ⟨⟨by rw [List.length_set]; exact h.len, fun x hx => ?_, rfl, fun k hk hk2 => ?_⟩, ?_⟩
  · rcases List.mem_or_eq_of_mem_set hx with hx | rfl
    · exact h.lt x hx
    · exact hc
  · rw [List.getElem?_set_ne (by omega)]
    exact h.zero k (by omega) hk2
  · have := val_set B out (i + w) 0 c (h.zero (i + w) (by omega) (by omega))
    rw [h.sum] at this
    exact this
theorem dg_lt (B n i : Nat) (hB : 0 < B) : dg B n i < B := Nat.mod_lt _ hB
theorem dig_dg (n i : Nat) : dig n i = dg 4294967296 n i := by
  unfold dig dg
  rw [show (4294967296 : Nat) = 2 ^ 32 from rfl, ← Nat.pow_mul]

theorem step_val {B n m i k c V V' : Nat} (hB : 0 < B) (h1 : V + c * B ^ (i + k) = n % B ^ i * m + dg B n i * (m % B ^ k) * B ^ i) {c' : Nat} (h2 : V' + c' * (B ^ (i + k) * B) = V + c * B ^ (i + k) + dg B n i * dg B m k * B ^ (i + k)) :
    V' + c' * B ^ (i + (k + 1)) = n % B ^ i * m + dg B n i * (m % B ^ (k + 1)) * B ^ i := by
  rw [dg_step, Nat.mul_add, Nat.add_mul]
  have e1 : dg B n i * (dg B m k * B ^ k) * B ^ i = dg B n i * dg B m k * B ^ (i + k) := by
    rw [Nat.pow_add, Nat.mul_comm (B ^ i), ← Nat.mul_assoc, ← Nat.mul_assoc]
  rw [e1, show i + (k + 1) = (i + k) + 1 from rfl, Nat.pow_succ]
  omega
theorem row_val {B n m i w V c V' : Nat} (hm : m < B ^ w) (h1 : V + c * B ^ (i + w) = n % B ^ i * m + dg B n i * (m % B ^ w) * B ^ i) (h2 : V' + 0 * B ^ (i + w) = V + c * B ^ (i + w)) : V' = n % B ^ (i + 1) * m := by
  rw [Nat.mod_eq_of_lt hm] at h1
  rw [dg_step, Nat.add_mul]
  have : dg B n i * B ^ i * m = dg B n i * m * B ^ i := by rw [Nat.mul_assoc, Nat.mul_comm (B ^ i), ← Nat.mul_assoc]
  omega

theorem put_set {α : Type} (f : α → AV) (l : List α) (j : Nat) (v : α) (h : j < l.length) : List.take j (l.map f) ++ [f v] ++ List.drop (j + 1) (l.map f) = (l.set j v).map f := by
  rw [List.map_set, List.set_eq_take_append_cons_drop, if_pos (by simpa using h), List.append_assoc]
  rfl
theorem or_dig0 {a : Nat} (ha : a < 4294967296) : IntKind.u64.wrap ((BitVec.ofInt IntKind.u64.bits 0 ||| BitVec.ofInt IntKind.u64.bits (IntKind.u64.wrap ((a : Int) * 2 ^ (min 0 IntKind.u64.bits)))).toNat : Int) = (a : Int) := by
  have e : IntKind.u64.bits = 64 := rfl
  have e1 : IntKind.u64.wrap ((a : Int) * 2 ^ (min 0 64)) = a := by
    rw [show (2 : Int) ^ (min 0 64) = 1 from by decide, Int.mul_one, wu64 (by omega) (by omega)]
  rw [e, e1, show BitVec.ofInt 64 0 = 0#64 from rfl, BitVec.zero_or, ofInt_nat, BitVec.toNat_ofNat, Nat.mod_eq_of_lt (by omega)]
  exact wu64 (by omega) (by omega)
theorem or_dig {a b : Nat} (ha : a < 4294967296) (hb : b < 4294967296) : IntKind.u64.wrap ((BitVec.ofInt IntKind.u64.bits (a : Int) ||| BitVec.ofInt IntKind.u64.bits (IntKind.u64.wrap ((b : Int) * 2 ^ (min 32 IntKind.u64.bits)))).toNat : Int) = ((a + 4294967296 * b : Nat) : Int) := by
  have e : IntKind.u64.bits = 64 := rfl
  rw [e, show (2 : Int) ^ (min 32 64) = ((4294967296 : Nat) : Int) from by decide, mulw (by omega), ofInt_nat, ofInt_nat, BitVec.toNat_or, BitVec.toNat_ofNat, BitVec.toNat_ofNat, Nat.mod_eq_of_lt (by omega), Nat.mod_eq_of_lt (by omega)]
  have e4 : a ||| b * 4294967296 = a + 4294967296 * b := by
    have := Nat.two_pow_add_eq_or_of_lt (i := 32) (show a < 2 ^ 32 by omega) b
    rw [Nat.or_comm, Nat.mul_comm b]
    rw [show (2 : Nat) ^ 32 = 4294967296 from rfl] at this
    omega
  rw [e4, wu64 (by omega) (by omega)]
theorem sixteen {l : List Nat} (h : l.length = 16) : ∃ o0 o1 o2 o3 o4 o5 o6 o7 o8 o9 o10 o11 o12 o13 o14 o15, l = [o0, o1, o2, o3, o4, o5, o6, o7, o8, o9, o10, o11, o12, o13, o14, o15] := by
  match l, h with
  | [o0, o1, o2, o3, o4, o5, o6, o7, o8, o9, o10, o11, o12, o13, o14, o15], _ => exact ⟨o0, o1, o2, o3, o4, o5, o6, o7, o8, o9, o10, o11, o12, o13, o14, o15, rfl⟩
theorem val_ge (B : Nat) : ∀ (l : List Nat) (j a : Nat), l[j]? = some a → a * B ^ j ≤ val B l
  | [], j, a, h => by cases h
  | x :: l, 0, a, h => by
    simp only [List.getElem?_cons_zero, Option.some.injEq] at h
    subst h
    simp [val]
  | x :: l, j + 1, a, h => by
    simp only [List.getElem?_cons_succ] at h
    have ih := Nat.mul_le_mul_left B (val_ge B l j a h)
    simp only [val, Nat.pow_succ]
    have e1 : a * (B ^ j * B) = B * (a * B ^ j) := by rw [← Nat.mul_assoc, Nat.mul_comm]
    omega
theorem val_big (hU : U = 4294967296 ^ 8) {l : List Nat} {p j a : Nat} (hs : val 4294967296 l = p) (hj : 8 ≤ j) (h : l[j]? = some a) (ha : 0 < a) : ¬ p < U := by
  have h1 := val_ge 4294967296 l j a h
  have h2 : 4294967296 ^ 8 ≤ 4294967296 ^ j := Nat.pow_le_pow_right (by decide) hj
  have h3 : 1 * 4294967296 ^ j ≤ a * 4294967296 ^ j := Nat.mul_le_mul_right _ ha
  rw [hU]; omega
theorem val_small (hU : U = 4294967296 ^ 8) {o0 o1 o2 o3 o4 o5 o6 o7 o8 o9 o10 o11 o12 o13 o14 o15 p : Nat} (hs : val 4294967296 [o0, o1, o2, o3, o4, o5, o6, o7, o8, o9, o10, o11, o12, o13, o14, o15] = p)
    (b0 : o0 < 4294967296) (b1 : o1 < 4294967296) (b2 : o2 < 4294967296) (b3 : o3 < 4294967296) (b4 : o4 < 4294967296) (b5 : o5 < 4294967296) (b6 : o6 < 4294967296) (b7 : o7 < 4294967296)
    (z8 : o8 = 0) (z9 : o9 = 0) (z10 : o10 = 0) (z11 : o11 = 0) (z12 : o12 = 0) (z13 : o13 = 0) (z14 : o14 = 0) (z15 : o15 = 0) :
    p < U ∧ p = o0 + 4294967296 * o1 + 18446744073709551616 * (o2 + 4294967296 * o3) + 340282366920938463463374607431768211456 * (o4 + 4294967296 * o5) + 6277101735386680763835789423207666416102355444464034512896 * (o6 + 4294967296 * o7) := by
  subst z8 z9 z10 z11 z12 z13 z14 z15
  simp only [val, Nat.mul_zero, Nat.add_zero] at hs
  unfold U
  constructor <;> omega
theorem c_ref1_Mul (n m : Nat) (hn : n < U) (hm : m < U) : Contract Try.prog 64 [u n, u m] (.tup [u (if n * m < U then n * m else 0), .bool (decide (n * m < U))]) := by
  have hU : U = 4294967296 ^ 8 := by decide
  refine contract_of (C := cf 75 [2, 3, 4, 5, 6, 7, 8, 9, 10, 11, 12, 14, 18, 50, 57] (fun _ => [])) (cf_ok _ _ _) (fn := Try.f64) Try.func64 (by kernel_rfl) rfl (by kernel_rfl) (by simp [cf]) (plain2 (u_plain n) (u_plain m)) (by decide) (cellsOk (by kernel_rfl)) ?_
  have hu1 : u n = .agg [.int .u64 (lim n 0), .int .u64 (lim n 1), .int .u64 (lim n 2), .int .u64 (lim n 3)] := rfl
  have hu2 : u m = .agg [.int .u64 (lim m 0), .int .u64 (lim m 1), .int .u64 (lim m 2), .int .u64 (lim m 3)] := rfl
  simp only [go_sem, ↓reduceIte, Nat.reduceLT, Nat.reduceLeDiff, Nat.reduceAdd, Nat.reduceSub, Nat.reduceMul, Nat.reduceEqDiff, Nat.reduceBEq, Nat.reduceMod, Nat.reduceDiv, Int.reduceToNat, reduceCtorEq, Int.reduceLT, Int.reduceLE, Int.reduceGT, Int.reduceGE, Int.reduceAdd, Int.reduceSub, Int.reduceMul, Int.reduceNeg, Int.reduceEq, Int.reduceNe, Int.reduceBNe, Int.reduceBEq, Int.reduceDiv, hu1, hu2]
  refine ex_iter [2, 3, 4, 6, 7] (fun q : Nat × List Nat => ⟨[(2, .var 2 0), (3, .var 3 0), (4, .var 4 0), (6, .var 6 0), (7, .int .i64 q.1)],
      [(2, [.int .u64 (lim n 0), .int .u64 (lim n 1), .int .u64 (lim n 2), .int .u64 (lim n 3)]), (3, [.int .u64 (lim m 0), .int .u64 (lim m 1), .int .u64 (lim m 2), .int .u64 (lim m 3)]), (4, [.int .u64 0, .int .u64 0, .int .u64 0, .int .u64 0]), (6, q.2.map un)], []⟩)
    (fun q => q.1 ≤ 8 ∧ Part 4294967296 8 n m q.1 q.2 (n % 4294967296 ^ q.1 * m)) (fun q => 8 - q.1) (0, List.replicate 16 0) ?_ ?_ ?_
  · simp only [ASt.keep, consIf, keepL, keepV, AV.isBot, List.contains_cons, List.contains_nil, Nat.reduceBEq, Bool.or_false, Bool.false_or, Bool.or_true, Bool.true_or, beq_self_eq_true, Bool.false_eq_true, ↓reduceIte, if_false, if_true]
    rfl
  · exact ⟨Nat.zero_le _, ⟨rfl, fun x hx => by rw [List.eq_of_mem_replicate hx]; decide, by rw [val_zero]; simp [Nat.mod_one], fun j _ hj => by rw [List.getElem?_replicate]; exact if_pos hj⟩⟩
  · rintro r ⟨i, out⟩ hinv next
    obtain ⟨hi, hp⟩ : i ≤ 8 ∧ Part 4294967296 8 n m i out (n % 4294967296 ^ i * m) := hinv
    simp only [go_sem, ↓reduceIte, Nat.reduceLT, Nat.reduceLeDiff, Nat.reduceAdd, Nat.reduceSub, Nat.reduceMul, Nat.reduceEqDiff, Nat.reduceBEq, Nat.reduceMod, Nat.reduceDiv, Int.reduceToNat, reduceCtorEq, Int.reduceLT, Int.reduceLE, Int.reduceGT, Int.reduceGE, Int.reduceAdd, Int.reduceSub, Int.reduceMul, Int.reduceNeg, Int.reduceEq, Int.reduceNe, Int.reduceBNe, Int.reduceBEq, Int.reduceDiv]
    refine ex_br (fun h => ?_) (fun h => ?_)
    · have hlt : i < 8 := by simp at h; omega
      simp only [go_sem, ↓reduceIte, Nat.reduceLT, Nat.reduceLeDiff, Nat.reduceAdd, Nat.reduceSub, Nat.reduceMul, Nat.reduceEqDiff, Nat.reduceBEq, Nat.reduceMod, Nat.reduceDiv, Int.reduceToNat, reduceCtorEq, Int.reduceLT, Int.reduceLE, Int.reduceGT, Int.reduceGE, Int.reduceAdd, Int.reduceSub, Int.reduceMul, Int.reduceNeg, Int.reduceEq, Int.reduceNe, Int.reduceBNe, Int.reduceBEq, Int.reduceDiv]
      refine ex_iter [2, 3, 4, 6, 7, 8, 9] (fun q : Nat × Nat × List Nat => ⟨[(2, .var 2 0), (3, .var 3 0), (4, .var 4 0), (6, .var 6 0), (7, .int .i64 i), (8, .int .u64 q.2.1), (9, .int .i64 q.1)],
          [(2, [.int .u64 (lim n 0), .int .u64 (lim n 1), .int .u64 (lim n 2), .int .u64 (lim n 3)]), (3, [.int .u64 (lim m 0), .int .u64 (lim m 1), .int .u64 (lim m 2), .int .u64 (lim m 3)]), (4, [.int .u64 0, .int .u64 0, .int .u64 0, .int .u64 0]), (6, q.2.2.map un)], []⟩)
        (fun q => q.1 ≤ 8 ∧ q.2.1 < 4294967296 ∧ ∃ V, Part 4294967296 8 n m i q.2.2 V ∧ V + q.2.1 * 4294967296 ^ (i + q.1) = n % 4294967296 ^ i * m + dg 4294967296 n i * (m % 4294967296 ^ q.1) * 4294967296 ^ i) (fun q => 8 - q.1) (0, 0, out) ?_ ?_ ?_
      · simp only [ASt.keep, consIf, keepL, keepV, AV.isBot, List.contains_cons, List.contains_nil, Nat.reduceBEq, Bool.or_false, Bool.false_or, Bool.or_true, Bool.true_or, beq_self_eq_true, Bool.false_eq_true, ↓reduceIte, if_false, if_true]
        rfl
      · exact ⟨Nat.zero_le _, Nat.succ_pos _, _, hp, by simp [Nat.mod_one]⟩
      · rintro r ⟨k, c, out⟩ hinv next2
        obtain ⟨hk, hc, V, hp, hv⟩ : k ≤ 8 ∧ c < 4294967296 ∧ ∃ V, Part 4294967296 8 n m i out V ∧ V + c * 4294967296 ^ (i + k) = n % 4294967296 ^ i * m + dg 4294967296 n i * (m % 4294967296 ^ k) * 4294967296 ^ i := hinv
        simp only [go_sem, ↓reduceIte, Nat.reduceLT, Nat.reduceLeDiff, Nat.reduceAdd, Nat.reduceSub, Nat.reduceMul, Nat.reduceEqDiff, Nat.reduceBEq, Nat.reduceMod, Nat.reduceDiv, Int.reduceToNat, reduceCtorEq, Int.reduceLT, Int.reduceLE, Int.reduceGT, Int.reduceGE, Int.reduceAdd, Int.reduceSub, Int.reduceMul, Int.reduceNeg, Int.reduceEq, Int.reduceNe, Int.reduceBNe, Int.reduceBEq, Int.reduceDiv]
        refine ex_br (fun h2 => ?_) (fun h2 => ?_)
        · have hlt2 : k < 8 := by simp at h2; omega
          obtain ⟨o, eo⟩ : ∃ o, out[i + k]? = some o := ⟨_, List.getElem?_eq_getElem (by rw [hp.len]; omega)⟩
          have ho := hp.lt o (List.mem_of_getElem? eo)
          have ik : IntKind.i64.wrap ((i : Int) + k) = ((i + k : Nat) : Int) := by rw [wi64 (by omega) (by omega)]; rfl
          simp only [go_sem, ↓reduceIte, Nat.reduceLT, Nat.reduceLeDiff, Nat.reduceAdd, Nat.reduceSub, Nat.reduceMul, Nat.reduceEqDiff, Nat.reduceBEq, Nat.reduceMod, Nat.reduceDiv, Int.reduceToNat, reduceCtorEq, Int.reduceLT, Int.reduceLE, Int.reduceGT, Int.reduceGE, Int.reduceAdd, Int.reduceSub, Int.reduceMul, Int.reduceNeg, Int.reduceEq, Int.reduceNe, Int.reduceBNe, Int.reduceBEq, Int.reduceDiv]
          refine ex_draw [] [] (.quiet 0 (.quiet 1 (.quiet 2 (.quiet 3 (.quiet 4 (.quiet 5 (.quiet 6 (.quiet 8 (.quiet 9 (.quiet 13 (.one 7 (.one 10 (.quiet 11 (.quiet 12 (.quiet 14 (.quiet 15 (.fin))))))))))))))))) (by kernel_rfl) ?_
          simp only [go_sem, ↓reduceIte, Nat.reduceLT, Nat.reduceLeDiff, Nat.reduceAdd, Nat.reduceSub, Nat.reduceMul, Nat.reduceEqDiff, Nat.reduceBEq, Nat.reduceMod, Nat.reduceDiv, Int.reduceToNat, reduceCtorEq, Int.reduceLT, Int.reduceLE, Int.reduceGT, Int.reduceGE, Int.reduceAdd, Int.reduceSub, Int.reduceMul, Int.reduceNeg, Int.reduceEq, Int.reduceNe, Int.reduceBNe, Int.reduceBEq, Int.reduceDiv, ik, Int.toNat_natCast, List.getElem?_map, eo, un]
          have hx : dig n i < 4294967296 := Nat.mod_lt _ (by decide)
          have hy : dig m k < 4294967296 := Nat.mod_lt _ (by decide)
          have hxy := mul_small hx hy
          have a0 := mulw (p := dig n i) (q := dig m k) (by omega)
          have a1 := addw (p := o) (q := dig n i * dig m k) (by omega)
          have a2 := addw (p := o + dig n i * dig m k) (q := c) (by omega)
          have a3 := and_mask (o + dig n i * dig m k + c) (by omega)
          have a4 := put_set un out (i + k) ((o + dig n i * dig m k + c) % 4294967296) (by rw [hp.len]; omega)
          have a5 : i + k + 1 ≤ (out.map un).length := by rw [List.length_map, hp.len]; omega
          repeat with_reducible refine And.intro (by first | omega | (simp only [List.length_cons, List.length_append, List.length_nil, List.length_map, List.length_take, List.length_drop, List.length_set]; omega)) ?_
          refine ex_call (by exact c_digit n i hn hlt) ?_
          simp only [cf, ex_seq, ex_block, ex_region, ex_ops_nil, ex_ops_cons, ex_ok, ex_need, ex_split_t, ex_split_f, ex_cond, ex_br_t, ex_br_f, ex_skip, ex_label, ex_scope, ex_exit, ex_ret, ex_keep, ex_inBlock_n, ex_inBlock_same, ex_inBlock_e, ex_inBlock_r, ex_code_e, ex_code_r, ex_rounds_e, ex_rounds_r, ex_ord_fin, ex_ord_quiet, ex_ord_one, ex_ord_unlock, ex_ord_lone, ex_ol, ex_oq_t, ex_oq_f, ex_nil, quietOp, loneOp, eltAddr, quietLoad, quietCallee, convQ, u8, moveR, moveTup, AV.isOwn, asU8, stepR, opR, ASt.rd, AV.seen, look, AV.const, AV.constC, AV.constG, AV.constCs, AV.constA, AV.nilOf, ASt.wr, Cfg.may, Cfg.round, roundQ, AV.dropR, AV.dropA, ASt.wrTo, R.chk, ASt.put, ASt.putOwn, ins, strike, consIf, keepL, keepV, AV.isBot, startSt, argsAt, allocR, ASt.newVar, AV.leansVar, AV.leans, AV.leansComp, assignR, ASt.take, ASt.takeO, ASt.at, cellAt, AV.compAt, ASt.drop, ASt.setCell, ASt.setCellO, ASt.dropComp, ASt.turn, binR, ASt.wrO, binInt, binAgg, isBoolK, isIntK, isSliceK, isFuncK, isInts, AV.eqInts, unVal, buildGo, partAt, partIn, placeOf, buildEnd, elemIn, elemsGo, elemsEnd, bsR, argOwnRef, argOwn, argImm, argsGo, callEnd, ASt.wrResTo, ASt.wrRes, pickR, boxR, loadOne, loadVar, wrImm, aggPart, AV.isAggV, loadElem, loadElt, loadR, storeOwn, AV.redir, redir, storeAl, storeRef, storeCells, storeVar, storePart, storeRow, storeElt, storeR, isU8, convBytes, convCont, convR, makeR, optI, cutSl, cutImm, cutStr, delV, ASt.freeVar, mkFnR, capR, capV, cutArr, cutR, addrR, structF, fieldR, idxSl, idxAddrR, idxR, extrOne, extrR, lenCont, lenR, appSrc, appRef, appTo, appR, maxR, fnOf, appKind, callFn, callLen, callApp, callMax, callR, grdO, grdT, TI.zeroVal, TK.isAgg, TK.known, Loc.plain, ASt.keep, ASt.imm, ASt.immRef, AV.isImm, AV.flat, AV.frz, AV.frz0, AV.mark, AV.elemsOf, AV.elemsO, ASt.cont, markFrom, putAt, resOf, resTup, resAll, resCons, resOne, resVar, resCells, resTmp, decide_true, decide_false, Bool.and_true, Bool.true_and, Bool.and_false, Bool.false_and, Bool.and_self, Bool.not_true, Bool.not_false, bq_t, bq_f, Bool.false_eq_true, Bool.true_eq_false, ↓reduceIte, Nat.reduceLT, Nat.reduceLeDiff, Nat.reduceAdd, Nat.reduceSub, Nat.reduceMul, Nat.reduceEqDiff, Nat.reduceBEq, Nat.lt_irrefl, Nat.zero_add, Nat.add_zero, Nat.mul_one, Nat.zero_mul, Nat.mul_zero, Nat.reduceMod, Nat.reduceDiv, Nat.zero_le, Nat.le_refl, Nat.beq, Int.reduceToNat, List.length_cons, List.length_nil, Option.isNone_none, Option.isNone_some, Option.bind_some, Option.bind_none, Option.map_some, Option.map_none, List.getElem?_cons_zero, List.getElem?_cons_succ, List.getElem?_nil, List.take_succ_cons, List.take_zero, List.take_nil, List.drop_succ_cons, List.drop_zero, List.drop_nil, List.map_cons, List.map_nil, List.cons_append, List.nil_append, List.append_nil, List.set_cons_zero, List.set_cons_succ, List.headD_cons, List.headD_nil, List.tail_cons, List.tail_nil, List.contains_cons, List.contains_nil, Bool.or_false, Bool.false_or, Bool.or_true, Bool.true_or, BEq.rfl, beq_self_eq_true, Nat.reduceBEq, List.replicate_zero, List.replicate_succ, List.isEmpty_nil, List.size_toArray, Array.isEmpty, List.reverse_nil, List.all_cons, List.all_nil, eq_self, true_and, and_true, false_and, and_false, and_self, not_true_eq_false, not_false_eq_true, reduceCtorEq, Loc.tmp.injEq, Loc.cell.injEq, Loc.comp.injEq, or_true, true_or, or_false, false_or, exists_const, Int.reduceLT, Int.reduceLE, Int.reduceGT, Int.reduceGE, Option.isSome_some, Option.isSome_none, Int.reduceAdd, Int.reduceSub, Int.reduceMul, Int.reduceNeg, Int.reduceEq, Int.reduceNe, Int.reduceBNe, Int.reduceBEq, ne_eq, Int.toNat_zero, Int.reduceDiv, forall_const, Nat.not_lt_zero, Nat.lt_add_one, ti1, ti2, ti3, ti4, ti5, ti6, ti7, ti8, ti9, ti10, ti11, ti12, ti13, ti14, ti21, ti22, ti23, ti24, ti25, ti26, ti27, ti28, ti29, ti31, ti33, ti34, ti35, ti36, ti38, ti39, ti40, ti41, ti42, ti43, ti44, ti45, ti46, ti47, ti48, ti49, ti50, ti51, ti53, ti55, ti56, ti57, ti58, ti59, ti60, ti61, ti62, ti64, ti65, ti66, ti67, ti68, ti70, ti72, ti74, ti75, ti76, ti77, ti78, ti79, ti80, ti82, ti83, ti84, ti85, ti86, ti87, ti89, ti90, ti91, ti92, ti93, ti94, ti95, ti96, ti97, ti98, ti99, ti100, ti101, ti102, ti103, ti104, ti105, ti106, ti107, ti108, ti109, ti110, ti111, ti112, ti113, ti114, ti115, ti116, ti118, ti120, ti121, ti122, ti123, ti124, ti125, ti126, ti128, ti129, ti130, ti131, ti137, ti138, ti139, ti140, ti141, ti143, ti144]
          refine ex_call (by exact c_digit m k hm hlt2) ?_
          simp only [cf, ex_seq, ex_block, ex_region, ex_ops_nil, ex_ops_cons, ex_ok, ex_need, ex_split_t, ex_split_f, ex_cond, ex_br_t, ex_br_f, ex_skip, ex_label, ex_scope, ex_exit, ex_ret, ex_keep, ex_inBlock_n, ex_inBlock_same, ex_inBlock_e, ex_inBlock_r, ex_code_e, ex_code_r, ex_rounds_e, ex_rounds_r, ex_ord_fin, ex_ord_quiet, ex_ord_one, ex_ord_unlock, ex_ord_lone, ex_ol, ex_oq_t, ex_oq_f, ex_nil, quietOp, loneOp, eltAddr, quietLoad, quietCallee, convQ, u8, moveR, moveTup, AV.isOwn, asU8, stepR, opR, ASt.rd, AV.seen, look, AV.const, AV.constC, AV.constG, AV.constCs, AV.constA, AV.nilOf, ASt.wr, Cfg.may, Cfg.round, roundQ, AV.dropR, AV.dropA, ASt.wrTo, R.chk, ASt.put, ASt.putOwn, ins, strike, consIf, keepL, keepV, AV.isBot, startSt, argsAt, allocR, ASt.newVar, AV.leansVar, AV.leans, AV.leansComp, assignR, ASt.take, ASt.takeO, ASt.at, cellAt, AV.compAt, ASt.drop, ASt.setCell, ASt.setCellO, ASt.dropComp, ASt.turn, binR, ASt.wrO, binInt, binAgg, isBoolK, isIntK, isSliceK, isFuncK, isInts, AV.eqInts, unVal, buildGo, partAt, partIn, placeOf, buildEnd, elemIn, elemsGo, elemsEnd, bsR, argOwnRef, argOwn, argImm, argsGo, callEnd, ASt.wrResTo, ASt.wrRes, pickR, boxR, loadOne, loadVar, wrImm, aggPart, AV.isAggV, loadElem, loadElt, loadR, storeOwn, AV.redir, redir, storeAl, storeRef, storeCells, storeVar, storePart, storeRow, storeElt, storeR, isU8, convBytes, convCont, convR, makeR, optI, cutSl, cutImm, cutStr, delV, ASt.freeVar, mkFnR, capR, capV, cutArr, cutR, addrR, structF, fieldR, idxSl, idxAddrR, idxR, extrOne, extrR, lenCont, lenR, appSrc, appRef, appTo, appR, maxR, fnOf, appKind, callFn, callLen, callApp, callMax, callR, grdO, grdT, TI.zeroVal, TK.isAgg, TK.known, Loc.plain, ASt.keep, ASt.imm, ASt.immRef, AV.isImm, AV.flat, AV.frz, AV.frz0, AV.mark, AV.elemsOf, AV.elemsO, ASt.cont, markFrom, putAt, resOf, resTup, resAll, resCons, resOne, resVar, resCells, resTmp, decide_true, decide_false, Bool.and_true, Bool.true_and, Bool.and_false, Bool.false_and, Bool.and_self, Bool.not_true, Bool.not_false, bq_t, bq_f, Bool.false_eq_true, Bool.true_eq_false, ↓reduceIte, Nat.reduceLT, Nat.reduceLeDiff, Nat.reduceAdd, Nat.reduceSub, Nat.reduceMul, Nat.reduceEqDiff, Nat.reduceBEq, Nat.lt_irrefl, Nat.zero_add, Nat.add_zero, Nat.mul_one, Nat.zero_mul, Nat.mul_zero, Nat.reduceMod, Nat.reduceDiv, Nat.zero_le, Nat.le_refl, Nat.beq, Int.reduceToNat, List.length_cons, List.length_nil, Option.isNone_none, Option.isNone_some, Option.bind_some, Option.bind_none, Option.map_some, Option.map_none, List.getElem?_cons_zero, List.getElem?_cons_succ, List.getElem?_nil, List.take_succ_cons, List.take_zero, List.take_nil, List.drop_succ_cons, List.drop_zero, List.drop_nil, List.map_cons, List.map_nil, List.cons_append, List.nil_append, List.append_nil, List.set_cons_zero, List.set_cons_succ, List.headD_cons, List.headD_nil, List.tail_cons, List.tail_nil, List.contains_cons, List.contains_nil, Bool.or_false, Bool.false_or, Bool.or_true, Bool.true_or, BEq.rfl, beq_self_eq_true, Nat.reduceBEq, List.replicate_zero, List.replicate_succ, List.isEmpty_nil, List.size_toArray, Array.isEmpty, List.reverse_nil, List.all_cons, List.all_nil, eq_self, true_and, and_true, false_and, and_false, and_self, not_true_eq_false, not_false_eq_true, reduceCtorEq, Loc.tmp.injEq, Loc.cell.injEq, Loc.comp.injEq, or_true, true_or, or_false, false_or, exists_const, Int.reduceLT, Int.reduceLE, Int.reduceGT, Int.reduceGE, Option.isSome_some, Option.isSome_none, Int.reduceAdd, Int.reduceSub, Int.reduceMul, Int.reduceNeg, Int.reduceEq, Int.reduceNe, Int.reduceBNe, Int.reduceBEq, ne_eq, Int.toNat_zero, Int.reduceDiv, forall_const, Nat.not_lt_zero, Nat.lt_add_one, ti1, ti2, ti3, ti4, ti5, ti6, ti7, ti8, ti9, ti10, ti11, ti12, ti13, ti14, ti21, ti22, ti23, ti24, ti25, ti26, ti27, ti28, ti29, ti31, ti33, ti34, ti35, ti36, ti38, ti39, ti40, ti41, ti42, ti43, ti44, ti45, ti46, ti47, ti48, ti49, ti50, ti51, ti53, ti55, ti56, ti57, ti58, ti59, ti60, ti61, ti62, ti64, ti65, ti66, ti67, ti68, ti70, ti72, ti74, ti75, ti76, ti77, ti78, ti79, ti80, ti82, ti83, ti84, ti85, ti86, ti87, ti89, ti90, ti91, ti92, ti93, ti94, ti95, ti96, ti97, ti98, ti99, ti100, ti101, ti102, ti103, ti104, ti105, ti106, ti107, ti108, ti109, ti110, ti111, ti112, ti113, ti114, ti115, ti116, ti118, ti120, ti121, ti122, ti123, ti124, ti125, ti126, ti128, ti129, ti130, ti131, ti137, ti138, ti139, ti140, ti141, ti143, ti144, a0, a1, a2, a3, shr32, ik, Int.toNat_natCast]
          repeat with_reducible refine And.intro (by first | omega | (simp only [List.length_cons, List.length_append, List.length_nil, List.length_map, List.length_take, List.length_drop, List.length_set]; omega)) ?_
          simp only [cf, ex_seq, ex_block, ex_region, ex_ops_nil, ex_ops_cons, ex_ok, ex_need, ex_split_t, ex_split_f, ex_cond, ex_br_t, ex_br_f, ex_skip, ex_label, ex_scope, ex_exit, ex_ret, ex_keep, ex_inBlock_n, ex_inBlock_same, ex_inBlock_e, ex_inBlock_r, ex_code_e, ex_code_r, ex_rounds_e, ex_rounds_r, ex_ord_fin, ex_ord_quiet, ex_ord_one, ex_ord_unlock, ex_ord_lone, ex_ol, ex_oq_t, ex_oq_f, ex_nil, quietOp, loneOp, eltAddr, quietLoad, quietCallee, convQ, u8, moveR, moveTup, AV.isOwn, asU8, stepR, opR, ASt.rd, AV.seen, look, AV.const, AV.constC, AV.constG, AV.constCs, AV.constA, AV.nilOf, ASt.wr, Cfg.may, Cfg.round, roundQ, AV.dropR, AV.dropA, ASt.wrTo, R.chk, ASt.put, ASt.putOwn, ins, strike, consIf, keepL, keepV, AV.isBot, startSt, argsAt, allocR, ASt.newVar, AV.leansVar, AV.leans, AV.leansComp, assignR, ASt.take, ASt.takeO, ASt.at, cellAt, AV.compAt, ASt.drop, ASt.setCell, ASt.setCellO, ASt.dropComp, ASt.turn, binR, ASt.wrO, binInt, binAgg, isBoolK, isIntK, isSliceK, isFuncK, isInts, AV.eqInts, unVal, buildGo, partAt, partIn, placeOf, buildEnd, elemIn, elemsGo, elemsEnd, bsR, argOwnRef, argOwn, argImm, argsGo, callEnd, ASt.wrResTo, ASt.wrRes, pickR, boxR, loadOne, loadVar, wrImm, aggPart, AV.isAggV, loadElem, loadElt, loadR, storeOwn, AV.redir, redir, storeAl, storeRef, storeCells, storeVar, storePart, storeRow, storeElt, storeR, isU8, convBytes, convCont, convR, makeR, optI, cutSl, cutImm, cutStr, delV, ASt.freeVar, mkFnR, capR, capV, cutArr, cutR, addrR, structF, fieldR, idxSl, idxAddrR, idxR, extrOne, extrR, lenCont, lenR, appSrc, appRef, appTo, appR, maxR, fnOf, appKind, callFn, callLen, callApp, callMax, callR, grdO, grdT, TI.zeroVal, TK.isAgg, TK.known, Loc.plain, ASt.keep, ASt.imm, ASt.immRef, AV.isImm, AV.flat, AV.frz, AV.frz0, AV.mark, AV.elemsOf, AV.elemsO, ASt.cont, markFrom, putAt, resOf, resTup, resAll, resCons, resOne, resVar, resCells, resTmp, decide_true, decide_false, Bool.and_true, Bool.true_and, Bool.and_false, Bool.false_and, Bool.and_self, Bool.not_true, Bool.not_false, bq_t, bq_f, Bool.false_eq_true, Bool.true_eq_false, ↓reduceIte, Nat.reduceLT, Nat.reduceLeDiff, Nat.reduceAdd, Nat.reduceSub, Nat.reduceMul, Nat.reduceEqDiff, Nat.reduceBEq, Nat.lt_irrefl, Nat.zero_add, Nat.add_zero, Nat.mul_one, Nat.zero_mul, Nat.mul_zero, Nat.reduceMod, Nat.reduceDiv, Nat.zero_le, Nat.le_refl, Nat.beq, Int.reduceToNat, List.length_cons, List.length_nil, Option.isNone_none, Option.isNone_some, Option.bind_some, Option.bind_none, Option.map_some, Option.map_none, List.getElem?_cons_zero, List.getElem?_cons_succ, List.getElem?_nil, List.take_succ_cons, List.take_zero, List.take_nil, List.drop_succ_cons, List.drop_zero, List.drop_nil, List.map_cons, List.map_nil, List.cons_append, List.nil_append, List.append_nil, List.set_cons_zero, List.set_cons_succ, List.headD_cons, List.headD_nil, List.tail_cons, List.tail_nil, List.contains_cons, List.contains_nil, Bool.or_false, Bool.false_or, Bool.or_true, Bool.true_or, BEq.rfl, beq_self_eq_true, Nat.reduceBEq, List.replicate_zero, List.replicate_succ, List.isEmpty_nil, List.size_toArray, Array.isEmpty, List.reverse_nil, List.all_cons, List.all_nil, eq_self, true_and, and_true, false_and, and_false, and_self, not_true_eq_false, not_false_eq_true, reduceCtorEq, Loc.tmp.injEq, Loc.cell.injEq, Loc.comp.injEq, or_true, true_or, or_false, false_or, exists_const, Int.reduceLT, Int.reduceLE, Int.reduceGT, Int.reduceGE, Option.isSome_some, Option.isSome_none, Int.reduceAdd, Int.reduceSub, Int.reduceMul, Int.reduceNeg, Int.reduceEq, Int.reduceNe, Int.reduceBNe, Int.reduceBEq, ne_eq, Int.toNat_zero, Int.reduceDiv, forall_const, Nat.not_lt_zero, Nat.lt_add_one, ti1, ti2, ti3, ti4, ti5, ti6, ti7, ti8, ti9, ti10, ti11, ti12, ti13, ti14, ti21, ti22, ti23, ti24, ti25, ti26, ti27, ti28, ti29, ti31, ti33, ti34, ti35, ti36, ti38, ti39, ti40, ti41, ti42, ti43, ti44, ti45, ti46, ti47, ti48, ti49, ti50, ti51, ti53, ti55, ti56, ti57, ti58, ti59, ti60, ti61, ti62, ti64, ti65, ti66, ti67, ti68, ti70, ti72, ti74, ti75, ti76, ti77, ti78, ti79, ti80, ti82, ti83, ti84, ti85, ti86, ti87, ti89, ti90, ti91, ti92, ti93, ti94, ti95, ti96, ti97, ti98, ti99, ti100, ti101, ti102, ti103, ti104, ti105, ti106, ti107, ti108, ti109, ti110, ti111, ti112, ti113, ti114, ti115, ti116, ti118, ti120, ti121, ti122, ti123, ti124, ti125, ti126, ti128, ti129, ti130, ti131, ti137, ti138, ti139, ti140, ti141, ti143, ti144, decide_eq_true_eq, a5]
          obtain ⟨p1, p2⟩ := hp.set (j := i + k) (v := (o + dig n i * dig m k + c) % 4294967296) (by omega) (Nat.mod_lt _ (by decide)) eo
          refine next2 (k + 1, (o + dig n i * dig m k + c) / 4294967296, out.set (i + k) ((o + dig n i * dig m k + c) % 4294967296)) _ ⟨by simp only; omega, by simp only; omega, _, p1, step_val (by decide) hv ?_⟩ (by simp only; omega) ?_
          · refine mac (s := (o + dig n i * dig m k + c) % 4294967296) (out := o) ?_ p2
            rw [← dig_dg, ← dig_dg]
            exact Nat.mod_add_div _ _
          · simp only
            rw [← wi64_nat k (by omega), ← a4]
            simp only [ASt.keep, consIf, keepL, keepV, AV.isBot, List.contains_cons, List.contains_nil, Nat.reduceBEq, Bool.or_false, Bool.false_or, Bool.or_true, Bool.true_or, beq_self_eq_true, Bool.false_eq_true, ↓reduceIte, if_false, if_true]
            rfl
        · have hge : k = 8 := by simp at h2; omega
          subst hge
          have eo : out[i + 8]? = some 0 := hp.zero (i + 8) (by omega) (by omega)
          have ik : IntKind.i64.wrap ((i : Int) + 8) = ((i + 8 : Nat) : Int) := by rw [wi64 (by omega) (by omega)]; rfl
          have a4 := put_set un out (i + 8) c (by rw [hp.len]; omega)
          have a5 : i + 8 + 1 ≤ (out.map un).length := by rw [List.length_map, hp.len]; omega
          obtain ⟨p1, p2⟩ := hp.set9 (c := c) (by omega) hc
          have p3 := row_val (by rw [← hU]; exact hm) hv p2
          simp only [cf, ex_seq, ex_block, ex_region, ex_ops_nil, ex_ops_cons, ex_ok, ex_need, ex_split_t, ex_split_f, ex_cond, ex_br_t, ex_br_f, ex_skip, ex_label, ex_scope, ex_exit, ex_ret, ex_keep, ex_inBlock_n, ex_inBlock_same, ex_inBlock_e, ex_inBlock_r, ex_code_e, ex_code_r, ex_rounds_e, ex_rounds_r, ex_ord_fin, ex_ord_quiet, ex_ord_one, ex_ord_unlock, ex_ord_lone, ex_ol, ex_oq_t, ex_oq_f, ex_nil, quietOp, loneOp, eltAddr, quietLoad, quietCallee, convQ, u8, moveR, moveTup, AV.isOwn, asU8, stepR, opR, ASt.rd, AV.seen, look, AV.const, AV.constC, AV.constG, AV.constCs, AV.constA, AV.nilOf, ASt.wr, Cfg.may, Cfg.round, roundQ, AV.dropR, AV.dropA, ASt.wrTo, R.chk, ASt.put, ASt.putOwn, ins, strike, consIf, keepL, keepV, AV.isBot, startSt, argsAt, allocR, ASt.newVar, AV.leansVar, AV.leans, AV.leansComp, assignR, ASt.take, ASt.takeO, ASt.at, cellAt, AV.compAt, ASt.drop, ASt.setCell, ASt.setCellO, ASt.dropComp, ASt.turn, binR, ASt.wrO, binInt, binAgg, isBoolK, isIntK, isSliceK, isFuncK, isInts, AV.eqInts, unVal, buildGo, partAt, partIn, placeOf, buildEnd, elemIn, elemsGo, elemsEnd, bsR, argOwnRef, argOwn, argImm, argsGo, callEnd, ASt.wrResTo, ASt.wrRes, pickR, boxR, loadOne, loadVar, wrImm, aggPart, AV.isAggV, loadElem, loadElt, loadR, storeOwn, AV.redir, redir, storeAl, storeRef, storeCells, storeVar, storePart, storeRow, storeElt, storeR, isU8, convBytes, convCont, convR, makeR, optI, cutSl, cutImm, cutStr, delV, ASt.freeVar, mkFnR, capR, capV, cutArr, cutR, addrR, structF, fieldR, idxSl, idxAddrR, idxR, extrOne, extrR, lenCont, lenR, appSrc, appRef, appTo, appR, maxR, fnOf, appKind, callFn, callLen, callApp, callMax, callR, grdO, grdT, TI.zeroVal, TK.isAgg, TK.known, Loc.plain, ASt.keep, ASt.imm, ASt.immRef, AV.isImm, AV.flat, AV.frz, AV.frz0, AV.mark, AV.elemsOf, AV.elemsO, ASt.cont, markFrom, putAt, resOf, resTup, resAll, resCons, resOne, resVar, resCells, resTmp, decide_true, decide_false, Bool.and_true, Bool.true_and, Bool.and_false, Bool.false_and, Bool.and_self, Bool.not_true, Bool.not_false, bq_t, bq_f, Bool.false_eq_true, Bool.true_eq_false, ↓reduceIte, Nat.reduceLT, Nat.reduceLeDiff, Nat.reduceAdd, Nat.reduceSub, Nat.reduceMul, Nat.reduceEqDiff, Nat.reduceBEq, Nat.lt_irrefl, Nat.zero_add, Nat.add_zero, Nat.mul_one, Nat.zero_mul, Nat.mul_zero, Nat.reduceMod, Nat.reduceDiv, Nat.zero_le, Nat.le_refl, Nat.beq, Int.reduceToNat, List.length_cons, List.length_nil, Option.isNone_none, Option.isNone_some, Option.bind_some, Option.bind_none, Option.map_some, Option.map_none, List.getElem?_cons_zero, List.getElem?_cons_succ, List.getElem?_nil, List.take_succ_cons, List.take_zero, List.take_nil, List.drop_succ_cons, List.drop_zero, List.drop_nil, List.map_cons, List.map_nil, List.cons_append, List.nil_append, List.append_nil, List.set_cons_zero, List.set_cons_succ, List.headD_cons, List.headD_nil, List.tail_cons, List.tail_nil, List.contains_cons, List.contains_nil, Bool.or_false, Bool.false_or, Bool.or_true, Bool.true_or, BEq.rfl, beq_self_eq_true, Nat.reduceBEq, List.replicate_zero, List.replicate_succ, List.isEmpty_nil, List.size_toArray, Array.isEmpty, List.reverse_nil, List.all_cons, List.all_nil, eq_self, true_and, and_true, false_and, and_false, and_self, not_true_eq_false, not_false_eq_true, reduceCtorEq, Loc.tmp.injEq, Loc.cell.injEq, Loc.comp.injEq, or_true, true_or, or_false, false_or, exists_const, Int.reduceLT, Int.reduceLE, Int.reduceGT, Int.reduceGE, Option.isSome_some, Option.isSome_none, Int.reduceAdd, Int.reduceSub, Int.reduceMul, Int.reduceNeg, Int.reduceEq, Int.reduceNe, Int.reduceBNe, Int.reduceBEq, ne_eq, Int.toNat_zero, Int.reduceDiv, forall_const, Nat.not_lt_zero, Nat.lt_add_one, ti1, ti2, ti3, ti4, ti5, ti6, ti7, ti8, ti9, ti10, ti11, ti12, ti13, ti14, ti21, ti22, ti23, ti24, ti25, ti26, ti27, ti28, ti29, ti31, ti33, ti34, ti35, ti36, ti38, ti39, ti40, ti41, ti42, ti43, ti44, ti45, ti46, ti47, ti48, ti49, ti50, ti51, ti53, ti55, ti56, ti57, ti58, ti59, ti60, ti61, ti62, ti64, ti65, ti66, ti67, ti68, ti70, ti72, ti74, ti75, ti76, ti77, ti78, ti79, ti80, ti82, ti83, ti84, ti85, ti86, ti87, ti89, ti90, ti91, ti92, ti93, ti94, ti95, ti96, ti97, ti98, ti99, ti100, ti101, ti102, ti103, ti104, ti105, ti106, ti107, ti108, ti109, ti110, ti111, ti112, ti113, ti114, ti115, ti116, ti118, ti120, ti121, ti122, ti123, ti124, ti125, ti126, ti128, ti129, ti130, ti131, ti137, ti138, ti139, ti140, ti141, ti143, ti144, ik, Int.toNat_natCast]
          repeat with_reducible refine And.intro (by first | omega | (simp only [List.length_cons, List.length_append, List.length_nil, List.length_map, List.length_take, List.length_drop, List.length_set]; omega)) ?_
          simp only [cf, ex_seq, ex_block, ex_region, ex_ops_nil, ex_ops_cons, ex_ok, ex_need, ex_split_t, ex_split_f, ex_cond, ex_br_t, ex_br_f, ex_skip, ex_label, ex_scope, ex_exit, ex_ret, ex_keep, ex_inBlock_n, ex_inBlock_same, ex_inBlock_e, ex_inBlock_r, ex_code_e, ex_code_r, ex_rounds_e, ex_rounds_r, ex_ord_fin, ex_ord_quiet, ex_ord_one, ex_ord_unlock, ex_ord_lone, ex_ol, ex_oq_t, ex_oq_f, ex_nil, quietOp, loneOp, eltAddr, quietLoad, quietCallee, convQ, u8, moveR, moveTup, AV.isOwn, asU8, stepR, opR, ASt.rd, AV.seen, look, AV.const, AV.constC, AV.constG, AV.constCs, AV.constA, AV.nilOf, ASt.wr, Cfg.may, Cfg.round, roundQ, AV.dropR, AV.dropA, ASt.wrTo, R.chk, ASt.put, ASt.putOwn, ins, strike, consIf, keepL, keepV, AV.isBot, startSt, argsAt, allocR, ASt.newVar, AV.leansVar, AV.leans, AV.leansComp, assignR, ASt.take, ASt.takeO, ASt.at, cellAt, AV.compAt, ASt.drop, ASt.setCell, ASt.setCellO, ASt.dropComp, ASt.turn, binR, ASt.wrO, binInt, binAgg, isBoolK, isIntK, isSliceK, isFuncK, isInts, AV.eqInts, unVal, buildGo, partAt, partIn, placeOf, buildEnd, elemIn, elemsGo, elemsEnd, bsR, argOwnRef, argOwn, argImm, argsGo, callEnd, ASt.wrResTo, ASt.wrRes, pickR, boxR, loadOne, loadVar, wrImm, aggPart, AV.isAggV, loadElem, loadElt, loadR, storeOwn, AV.redir, redir, storeAl, storeRef, storeCells, storeVar, storePart, storeRow, storeElt, storeR, isU8, convBytes, convCont, convR, makeR, optI, cutSl, cutImm, cutStr, delV, ASt.freeVar, mkFnR, capR, capV, cutArr, cutR, addrR, structF, fieldR, idxSl, idxAddrR, idxR, extrOne, extrR, lenCont, lenR, appSrc, appRef, appTo, appR, maxR, fnOf, appKind, callFn, callLen, callApp, callMax, callR, grdO, grdT, TI.zeroVal, TK.isAgg, TK.known, Loc.plain, ASt.keep, ASt.imm, ASt.immRef, AV.isImm, AV.flat, AV.frz, AV.frz0, AV.mark, AV.elemsOf, AV.elemsO, ASt.cont, markFrom, putAt, resOf, resTup, resAll, resCons, resOne, resVar, resCells, resTmp, decide_true, decide_false, Bool.and_true, Bool.true_and, Bool.and_false, Bool.false_and, Bool.and_self, Bool.not_true, Bool.not_false, bq_t, bq_f, Bool.false_eq_true, Bool.true_eq_false, ↓reduceIte, Nat.reduceLT, Nat.reduceLeDiff, Nat.reduceAdd, Nat.reduceSub, Nat.reduceMul, Nat.reduceEqDiff, Nat.reduceBEq, Nat.lt_irrefl, Nat.zero_add, Nat.add_zero, Nat.mul_one, Nat.zero_mul, Nat.mul_zero, Nat.reduceMod, Nat.reduceDiv, Nat.zero_le, Nat.le_refl, Nat.beq, Int.reduceToNat, List.length_cons, List.length_nil, Option.isNone_none, Option.isNone_some, Option.bind_some, Option.bind_none, Option.map_some, Option.map_none, List.getElem?_cons_zero, List.getElem?_cons_succ, List.getElem?_nil, List.take_succ_cons, List.take_zero, List.take_nil, List.drop_succ_cons, List.drop_zero, List.drop_nil, List.map_cons, List.map_nil, List.cons_append, List.nil_append, List.append_nil, List.set_cons_zero, List.set_cons_succ, List.headD_cons, List.headD_nil, List.tail_cons, List.tail_nil, List.contains_cons, List.contains_nil, Bool.or_false, Bool.false_or, Bool.or_true, Bool.true_or, BEq.rfl, beq_self_eq_true, Nat.reduceBEq, List.replicate_zero, List.replicate_succ, List.isEmpty_nil, List.size_toArray, Array.isEmpty, List.reverse_nil, List.all_cons, List.all_nil, eq_self, true_and, and_true, false_and, and_false, and_self, not_true_eq_false, not_false_eq_true, reduceCtorEq, Loc.tmp.injEq, Loc.cell.injEq, Loc.comp.injEq, or_true, true_or, or_false, false_or, exists_const, Int.reduceLT, Int.reduceLE, Int.reduceGT, Int.reduceGE, Option.isSome_some, Option.isSome_none, Int.reduceAdd, Int.reduceSub, Int.reduceMul, Int.reduceNeg, Int.reduceEq, Int.reduceNe, Int.reduceBNe, Int.reduceBEq, ne_eq, Int.toNat_zero, Int.reduceDiv, forall_const, Nat.not_lt_zero, Nat.lt_add_one, ti1, ti2, ti3, ti4, ti5, ti6, ti7, ti8, ti9, ti10, ti11, ti12, ti13, ti14, ti21, ti22, ti23, ti24, ti25, ti26, ti27, ti28, ti29, ti31, ti33, ti34, ti35, ti36, ti38, ti39, ti40, ti41, ti42, ti43, ti44, ti45, ti46, ti47, ti48, ti49, ti50, ti51, ti53, ti55, ti56, ti57, ti58, ti59, ti60, ti61, ti62, ti64, ti65, ti66, ti67, ti68, ti70, ti72, ti74, ti75, ti76, ti77, ti78, ti79, ti80, ti82, ti83, ti84, ti85, ti86, ti87, ti89, ti90, ti91, ti92, ti93, ti94, ti95, ti96, ti97, ti98, ti99, ti100, ti101, ti102, ti103, ti104, ti105, ti106, ti107, ti108, ti109, ti110, ti111, ti112, ti113, ti114, ti115, ti116, ti118, ti120, ti121, ti122, ti123, ti124, ti125, ti126, ti128, ti129, ti130, ti131, ti137, ti138, ti139, ti140, ti141, ti143, ti144, decide_eq_true_eq, a5]
          refine next (i + 1, out.set (i + 8) c) _ ⟨by simp only; omega, ?_⟩ (by simp only; omega) ?_
          · rw [← p3]; exact p1
          · simp only
            rw [← wi64_nat i (by omega), ← a4]
            simp only [ASt.keep, consIf, keepL, keepV, AV.isBot, List.contains_cons, List.contains_nil, Nat.reduceBEq, Bool.or_false, Bool.false_or, Bool.or_true, Bool.true_or, beq_self_eq_true, Bool.false_eq_true, ↓reduceIte, if_false, if_true]
            rfl
    · have hge : i = 8 := by simp at h; omega
      subst hge
      clear next
      have hs := hp.sum
      have hz := hp.zero
      have hl := hp.len
      have hb := hp.lt
      rw [Nat.mod_eq_of_lt (by rw [← hU]; exact hn)] at hs
      obtain ⟨o0, o1, o2, o3, o4, o5, o6, o7, o8, o9, o10, o11, o12, o13, o14, o15, rfl⟩ := sixteen hl
      simp only [List.mem_cons, List.not_mem_nil, or_false, forall_eq_or_imp, forall_eq] at hb
      obtain ⟨b0, b1, b2, b3, b4, b5, b6, b7, b8, b9, b10, b11, b12, b13, b14, b15⟩ := hb
      clear hz hp
      have q0 := or_dig b0 b1
      have q1 := or_dig b2 b3
      have q2 := or_dig b4 b5
      have q3 := or_dig b6 b7
      have z0 := or_dig0 b0
      have z1 := or_dig0 b2
      have z2 := or_dig0 b4
      have z3 := or_dig0 b6
      have hz4 : u 0 = _ := u_eq (n := 0) (a := 0) (b := 0) (c := 0) (d := 0) (by decide) (by decide) (by decide) (by decide) rfl
      generalize n * m = p at hs
      simp only [go_sem, ↓reduceIte, Nat.reduceLT, Nat.reduceLeDiff, Nat.reduceAdd, Nat.reduceSub, Nat.reduceMul, Nat.reduceEqDiff, Nat.reduceBEq, Nat.reduceMod, Nat.reduceDiv, Int.reduceToNat, reduceCtorEq, Int.reduceLT, Int.reduceLE, Int.reduceGT, Int.reduceGE, Int.reduceAdd, Int.reduceSub, Int.reduceMul, Int.reduceNeg, Int.reduceEq, Int.reduceNe, Int.reduceBNe, Int.reduceBEq, Int.reduceDiv, un]
      refine ex_loop [4, 6, 11, 12] 9 ?_
      simp only [go_sem, ↓reduceIte, Nat.reduceLT, Nat.reduceLeDiff, Nat.reduceAdd, Nat.reduceSub, Nat.reduceMul, Nat.reduceEqDiff, Nat.reduceBEq, Nat.reduceMod, Nat.reduceDiv, Int.reduceToNat, reduceCtorEq, Int.reduceLT, Int.reduceLE, Int.reduceGT, Int.reduceGE, Int.reduceAdd, Int.reduceSub, Int.reduceMul, Int.reduceNeg, Int.reduceEq, Int.reduceNe, Int.reduceBNe, Int.reduceBEq, Int.reduceDiv, ex_round, Int.cast_ofNat_Int, wi64, Int.reduceTDiv, Int.reduceTMod]
      refine ex_br (fun h => ?_) (fun h => ?_)
      · have h := of_decide_eq_true h
        have hbig := val_big hU hs (j := 8) (by decide) rfl (by omega)
        rw [if_neg hbig, decide_eq_false hbig]
        simp only [go_sem, ↓reduceIte, Nat.reduceLT, Nat.reduceLeDiff, Nat.reduceAdd, Nat.reduceSub, Nat.reduceMul, Nat.reduceEqDiff, Nat.reduceBEq, Nat.reduceMod, Nat.reduceDiv, Int.reduceToNat, reduceCtorEq, Int.reduceLT, Int.reduceLE, Int.reduceGT, Int.reduceGE, Int.reduceAdd, Int.reduceSub, Int.reduceMul, Int.reduceNeg, Int.reduceEq, Int.reduceNe, Int.reduceBNe, Int.reduceBEq, Int.reduceDiv]
        refine finTup ?_
        show resOf _ _ [.cell 4 45, .tmp 5] = _
        rw [hz4]
        simp only [go_sem, ↓reduceIte, Nat.reduceLT, Nat.reduceLeDiff, Nat.reduceAdd, Nat.reduceSub, Nat.reduceMul, Nat.reduceEqDiff, Nat.reduceBEq, Nat.reduceMod, Nat.reduceDiv, Int.reduceToNat, reduceCtorEq, Int.reduceLT, Int.reduceLE, Int.reduceGT, Int.reduceGE, Int.reduceAdd, Int.reduceSub, Int.reduceMul, Int.reduceNeg, Int.reduceEq, Int.reduceNe, Int.reduceBNe, Int.reduceBEq, Int.reduceDiv]
        try rfl
      have h0 := of_decide_eq_false h
      clear h
      simp only [go_sem, ↓reduceIte, Nat.reduceLT, Nat.reduceLeDiff, Nat.reduceAdd, Nat.reduceSub, Nat.reduceMul, Nat.reduceEqDiff, Nat.reduceBEq, Nat.reduceMod, Nat.reduceDiv, Int.reduceToNat, reduceCtorEq, Int.reduceLT, Int.reduceLE, Int.reduceGT, Int.reduceGE, Int.reduceAdd, Int.reduceSub, Int.reduceMul, Int.reduceNeg, Int.reduceEq, Int.reduceNe, Int.reduceBNe, Int.reduceBEq, Int.reduceDiv]
      refine ex_draw [15] [] (.quiet 0 (.quiet 1 (.quiet 2 (.quiet 3 (.quiet 4 (.quiet 5 (.quiet 6 (.quiet 7 (.quiet 8 (.quiet 9 (.quiet 10 (.quiet 11 (.quiet 12 (.quiet 13 (.quiet 14 (.unlock (.one 15 (.fin)))))))))))))))))) (by kernel_rfl) ?_
      simp only [cf, ex_seq, ex_block, ex_region, ex_ops_nil, ex_ops_cons, ex_ok, ex_need, ex_split_t, ex_split_f, ex_cond, ex_br_t, ex_br_f, ex_skip, ex_label, ex_scope, ex_exit, ex_ret, ex_keep, ex_inBlock_n, ex_inBlock_same, ex_inBlock_e, ex_inBlock_r, ex_code_e, ex_code_r, ex_rounds_e, ex_rounds_r, ex_ord_fin, ex_ord_quiet, ex_ord_one, ex_ord_unlock, ex_ord_lone, ex_ol, ex_oq_t, ex_oq_f, ex_nil, quietOp, loneOp, eltAddr, quietLoad, quietCallee, convQ, u8, moveR, moveTup, AV.isOwn, asU8, stepR, opR, ASt.rd, AV.seen, look, AV.const, AV.constC, AV.constG, AV.constCs, AV.constA, AV.nilOf, ASt.wr, Cfg.may, Cfg.round, roundQ, AV.dropR, AV.dropA, ASt.wrTo, R.chk, ASt.put, ASt.putOwn, ins, strike, consIf, keepL, keepV, AV.isBot, startSt, argsAt, allocR, ASt.newVar, AV.leansVar, AV.leans, AV.leansComp, assignR, ASt.take, ASt.takeO, ASt.at, cellAt, AV.compAt, ASt.drop, ASt.setCell, ASt.setCellO, ASt.dropComp, ASt.turn, binR, ASt.wrO, binInt, binAgg, isBoolK, isIntK, isSliceK, isFuncK, isInts, AV.eqInts, unVal, buildGo, partAt, partIn, placeOf, buildEnd, elemIn, elemsGo, elemsEnd, bsR, argOwnRef, argOwn, argImm, argsGo, callEnd, ASt.wrResTo, ASt.wrRes, pickR, boxR, loadOne, loadVar, wrImm, aggPart, AV.isAggV, loadElem, loadElt, loadR, storeOwn, AV.redir, redir, storeAl, storeRef, storeCells, storeVar, storePart, storeRow, storeElt, storeR, isU8, convBytes, convCont, convR, makeR, optI, cutSl, cutImm, cutStr, delV, ASt.freeVar, mkFnR, capR, capV, cutArr, cutR, addrR, structF, fieldR, idxSl, idxAddrR, idxR, extrOne, extrR, lenCont, lenR, appSrc, appRef, appTo, appR, maxR, fnOf, appKind, callFn, callLen, callApp, callMax, callR, grdO, grdT, TI.zeroVal, TK.isAgg, TK.known, Loc.plain, ASt.keep, ASt.imm, ASt.immRef, AV.isImm, AV.flat, AV.frz, AV.frz0, AV.mark, AV.elemsOf, AV.elemsO, ASt.cont, markFrom, putAt, resOf, resTup, resAll, resCons, resOne, resVar, resCells, resTmp, decide_true, decide_false, Bool.and_true, Bool.true_and, Bool.and_false, Bool.false_and, Bool.and_self, Bool.not_true, Bool.not_false, bq_t, bq_f, Bool.false_eq_true, Bool.true_eq_false, ↓reduceIte, Nat.reduceLT, Nat.reduceLeDiff, Nat.reduceAdd, Nat.reduceSub, Nat.reduceMul, Nat.reduceEqDiff, Nat.reduceBEq, Nat.lt_irrefl, Nat.zero_add, Nat.add_zero, Nat.mul_one, Nat.zero_mul, Nat.mul_zero, Nat.reduceMod, Nat.reduceDiv, Nat.zero_le, Nat.le_refl, Nat.beq, Int.reduceToNat, List.length_cons, List.length_nil, Option.isNone_none, Option.isNone_some, Option.bind_some, Option.bind_none, Option.map_some, Option.map_none, List.getElem?_cons_zero, List.getElem?_cons_succ, List.getElem?_nil, List.take_succ_cons, List.take_zero, List.take_nil, List.drop_succ_cons, List.drop_zero, List.drop_nil, List.map_cons, List.map_nil, List.cons_append, List.nil_append, List.append_nil, List.set_cons_zero, List.set_cons_succ, List.headD_cons, List.headD_nil, List.tail_cons, List.tail_nil, List.contains_cons, List.contains_nil, Bool.or_false, Bool.false_or, Bool.or_true, Bool.true_or, BEq.rfl, beq_self_eq_true, Nat.reduceBEq, List.replicate_zero, List.replicate_succ, List.isEmpty_nil, List.size_toArray, Array.isEmpty, List.reverse_nil, List.all_cons, List.all_nil, eq_self, true_and, and_true, false_and, and_false, and_self, not_true_eq_false, not_false_eq_true, reduceCtorEq, Loc.tmp.injEq, Loc.cell.injEq, Loc.comp.injEq, or_true, true_or, or_false, false_or, exists_const, Int.reduceLT, Int.reduceLE, Int.reduceGT, Int.reduceGE, Option.isSome_some, Option.isSome_none, Int.reduceAdd, Int.reduceSub, Int.reduceMul, Int.reduceNeg, Int.reduceEq, Int.reduceNe, Int.reduceBNe, Int.reduceBEq, ne_eq, Int.toNat_zero, Int.reduceDiv, forall_const, Nat.not_lt_zero, Nat.lt_add_one, ti1, ti2, ti3, ti4, ti5, ti6, ti7, ti8, ti9, ti10, ti11, ti12, ti13, ti14, ti21, ti22, ti23, ti24, ti25, ti26, ti27, ti28, ti29, ti31, ti33, ti34, ti35, ti36, ti38, ti39, ti40, ti41, ti42, ti43, ti44, ti45, ti46, ti47, ti48, ti49, ti50, ti51, ti53, ti55, ti56, ti57, ti58, ti59, ti60, ti61, ti62, ti64, ti65, ti66, ti67, ti68, ti70, ti72, ti74, ti75, ti76, ti77, ti78, ti79, ti80, ti82, ti83, ti84, ti85, ti86, ti87, ti89, ti90, ti91, ti92, ti93, ti94, ti95, ti96, ti97, ti98, ti99, ti100, ti101, ti102, ti103, ti104, ti105, ti106, ti107, ti108, ti109, ti110, ti111, ti112, ti113, ti114, ti115, ti116, ti118, ti120, ti121, ti122, ti123, ti124, ti125, ti126, ti128, ti129, ti130, ti131, ti137, ti138, ti139, ti140, ti141, ti143, ti144, Int.cast_ofNat_Int, wi64, Int.reduceTDiv, Int.reduceTMod, q0, q1, q2, q3, z0, z1, z2, z3]
      simp only [go_sem, ↓reduceIte, Nat.reduceLT, Nat.reduceLeDiff, Nat.reduceAdd, Nat.reduceSub, Nat.reduceMul, Nat.reduceEqDiff, Nat.reduceBEq, Nat.reduceMod, Nat.reduceDiv, Int.reduceToNat, reduceCtorEq, Int.reduceLT, Int.reduceLE, Int.reduceGT, Int.reduceGE, Int.reduceAdd, Int.reduceSub, Int.reduceMul, Int.reduceNeg, Int.reduceEq, Int.reduceNe, Int.reduceBNe, Int.reduceBEq, Int.reduceDiv, ex_round, Int.cast_ofNat_Int, wi64, Int.reduceTDiv, Int.reduceTMod]
      refine ex_br (fun h => ?_) (fun h => ?_)
      · have h := of_decide_eq_true h
        have hbig := val_big hU hs (j := 9) (by decide) rfl (by omega)
        rw [if_neg hbig, decide_eq_false hbig]
        simp only [go_sem, ↓reduceIte, Nat.reduceLT, Nat.reduceLeDiff, Nat.reduceAdd, Nat.reduceSub, Nat.reduceMul, Nat.reduceEqDiff, Nat.reduceBEq, Nat.reduceMod, Nat.reduceDiv, Int.reduceToNat, reduceCtorEq, Int.reduceLT, Int.reduceLE, Int.reduceGT, Int.reduceGE, Int.reduceAdd, Int.reduceSub, Int.reduceMul, Int.reduceNeg, Int.reduceEq, Int.reduceNe, Int.reduceBNe, Int.reduceBEq, Int.reduceDiv]
        refine finTup ?_
        show resOf _ _ [.cell 4 45, .tmp 5] = _
        rw [hz4]
        simp only [go_sem, ↓reduceIte, Nat.reduceLT, Nat.reduceLeDiff, Nat.reduceAdd, Nat.reduceSub, Nat.reduceMul, Nat.reduceEqDiff, Nat.reduceBEq, Nat.reduceMod, Nat.reduceDiv, Int.reduceToNat, reduceCtorEq, Int.reduceLT, Int.reduceLE, Int.reduceGT, Int.reduceGE, Int.reduceAdd, Int.reduceSub, Int.reduceMul, Int.reduceNeg, Int.reduceEq, Int.reduceNe, Int.reduceBNe, Int.reduceBEq, Int.reduceDiv]
        try rfl
      have h1 := of_decide_eq_false h
      clear h
      simp only [go_sem, ↓reduceIte, Nat.reduceLT, Nat.reduceLeDiff, Nat.reduceAdd, Nat.reduceSub, Nat.reduceMul, Nat.reduceEqDiff, Nat.reduceBEq, Nat.reduceMod, Nat.reduceDiv, Int.reduceToNat, reduceCtorEq, Int.reduceLT, Int.reduceLE, Int.reduceGT, Int.reduceGE, Int.reduceAdd, Int.reduceSub, Int.reduceMul, Int.reduceNeg, Int.reduceEq, Int.reduceNe, Int.reduceBNe, Int.reduceBEq, Int.reduceDiv]
      refine ex_draw [15] [] (.quiet 0 (.quiet 1 (.quiet 2 (.quiet 3 (.quiet 4 (.quiet 5 (.quiet 6 (.quiet 7 (.quiet 8 (.quiet 9 (.quiet 10 (.quiet 11 (.quiet 12 (.quiet 13 (.quiet 14 (.unlock (.one 15 (.fin)))))))))))))))))) (by kernel_rfl) ?_
      simp only [cf, ex_seq, ex_block, ex_region, ex_ops_nil, ex_ops_cons, ex_ok, ex_need, ex_split_t, ex_split_f, ex_cond, ex_br_t, ex_br_f, ex_skip, ex_label, ex_scope, ex_exit, ex_ret, ex_keep, ex_inBlock_n, ex_inBlock_same, ex_inBlock_e, ex_inBlock_r, ex_code_e, ex_code_r, ex_rounds_e, ex_rounds_r, ex_ord_fin, ex_ord_quiet, ex_ord_one, ex_ord_unlock, ex_ord_lone, ex_ol, ex_oq_t, ex_oq_f, ex_nil, quietOp, loneOp, eltAddr, quietLoad, quietCallee, convQ, u8, moveR, moveTup, AV.isOwn, asU8, stepR, opR, ASt.rd, AV.seen, look, AV.const, AV.constC, AV.constG, AV.constCs, AV.constA, AV.nilOf, ASt.wr, Cfg.may, Cfg.round, roundQ, AV.dropR, AV.dropA, ASt.wrTo, R.chk, ASt.put, ASt.putOwn, ins, strike, consIf, keepL, keepV, AV.isBot, startSt, argsAt, allocR, ASt.newVar, AV.leansVar, AV.leans, AV.leansComp, assignR, ASt.take, ASt.takeO, ASt.at, cellAt, AV.compAt, ASt.drop, ASt.setCell, ASt.setCellO, ASt.dropComp, ASt.turn, binR, ASt.wrO, binInt, binAgg, isBoolK, isIntK, isSliceK, isFuncK, isInts, AV.eqInts, unVal, buildGo, partAt, partIn, placeOf, buildEnd, elemIn, elemsGo, elemsEnd, bsR, argOwnRef, argOwn, argImm, argsGo, callEnd, ASt.wrResTo, ASt.wrRes, pickR, boxR, loadOne, loadVar, wrImm, aggPart, AV.isAggV, loadElem, loadElt, loadR, storeOwn, AV.redir, redir, storeAl, storeRef, storeCells, storeVar, storePart, storeRow, storeElt, storeR, isU8, convBytes, convCont, convR, makeR, optI, cutSl, cutImm, cutStr, delV, ASt.freeVar, mkFnR, capR, capV, cutArr, cutR, addrR, structF, fieldR, idxSl, idxAddrR, idxR, extrOne, extrR, lenCont, lenR, appSrc, appRef, appTo, appR, maxR, fnOf, appKind, callFn, callLen, callApp, callMax, callR, grdO, grdT, TI.zeroVal, TK.isAgg, TK.known, Loc.plain, ASt.keep, ASt.imm, ASt.immRef, AV.isImm, AV.flat, AV.frz, AV.frz0, AV.mark, AV.elemsOf, AV.elemsO, ASt.cont, markFrom, putAt, resOf, resTup, resAll, resCons, resOne, resVar, resCells, resTmp, decide_true, decide_false, Bool.and_true, Bool.true_and, Bool.and_false, Bool.false_and, Bool.and_self, Bool.not_true, Bool.not_false, bq_t, bq_f, Bool.false_eq_true, Bool.true_eq_false, ↓reduceIte, Nat.reduceLT, Nat.reduceLeDiff, Nat.reduceAdd, Nat.reduceSub, Nat.reduceMul, Nat.reduceEqDiff, Nat.reduceBEq, Nat.lt_irrefl, Nat.zero_add, Nat.add_zero, Nat.mul_one, Nat.zero_mul, Nat.mul_zero, Nat.reduceMod, Nat.reduceDiv, Nat.zero_le, Nat.le_refl, Nat.beq, Int.reduceToNat, List.length_cons, List.length_nil, Option.isNone_none, Option.isNone_some, Option.bind_some, Option.bind_none, Option.map_some, Option.map_none, List.getElem?_cons_zero, List.getElem?_cons_succ, List.getElem?_nil, List.take_succ_cons, List.take_zero, List.take_nil, List.drop_succ_cons, List.drop_zero, List.drop_nil, List.map_cons, List.map_nil, List.cons_append, List.nil_append, List.append_nil, List.set_cons_zero, List.set_cons_succ, List.headD_cons, List.headD_nil, List.tail_cons, List.tail_nil, List.contains_cons, List.contains_nil, Bool.or_false, Bool.false_or, Bool.or_true, Bool.true_or, BEq.rfl, beq_self_eq_true, Nat.reduceBEq, List.replicate_zero, List.replicate_succ, List.isEmpty_nil, List.size_toArray, Array.isEmpty, List.reverse_nil, List.all_cons, List.all_nil, eq_self, true_and, and_true, false_and, and_false, and_self, not_true_eq_false, not_false_eq_true, reduceCtorEq, Loc.tmp.injEq, Loc.cell.injEq, Loc.comp.injEq, or_true, true_or, or_false, false_or, exists_const, Int.reduceLT, Int.reduceLE, Int.reduceGT, Int.reduceGE, Option.isSome_some, Option.isSome_none, Int.reduceAdd, Int.reduceSub, Int.reduceMul, Int.reduceNeg, Int.reduceEq, Int.reduceNe, Int.reduceBNe, Int.reduceBEq, ne_eq, Int.toNat_zero, Int.reduceDiv, forall_const, Nat.not_lt_zero, Nat.lt_add_one, ti1, ti2, ti3, ti4, ti5, ti6, ti7, ti8, ti9, ti10, ti11, ti12, ti13, ti14, ti21, ti22, ti23, ti24, ti25, ti26, ti27, ti28, ti29, ti31, ti33, ti34, ti35, ti36, ti38, ti39, ti40, ti41, ti42, ti43, ti44, ti45, ti46, ti47, ti48, ti49, ti50, ti51, ti53, ti55, ti56, ti57, ti58, ti59, ti60, ti61, ti62, ti64, ti65, ti66, ti67, ti68, ti70, ti72, ti74, ti75, ti76, ti77, ti78, ti79, ti80, ti82, ti83, ti84, ti85, ti86, ti87, ti89, ti90, ti91, ti92, ti93, ti94, ti95, ti96, ti97, ti98, ti99, ti100, ti101, ti102, ti103, ti104, ti105, ti106, ti107, ti108, ti109, ti110, ti111, ti112, ti113, ti114, ti115, ti116, ti118, ti120, ti121, ti122, ti123, ti124, ti125, ti126, ti128, ti129, ti130, ti131, ti137, ti138, ti139, ti140, ti141, ti143, ti144, Int.cast_ofNat_Int, wi64, Int.reduceTDiv, Int.reduceTMod, q0, q1, q2, q3, z0, z1, z2, z3]
      simp only [go_sem, ↓reduceIte, Nat.reduceLT, Nat.reduceLeDiff, Nat.reduceAdd, Nat.reduceSub, Nat.reduceMul, Nat.reduceEqDiff, Nat.reduceBEq, Nat.reduceMod, Nat.reduceDiv, Int.reduceToNat, reduceCtorEq, Int.reduceLT, Int.reduceLE, Int.reduceGT, Int.reduceGE, Int.reduceAdd, Int.reduceSub, Int.reduceMul, Int.reduceNeg, Int.reduceEq, Int.reduceNe, Int.reduceBNe, Int.reduceBEq, Int.reduceDiv, ex_round, Int.cast_ofNat_Int, wi64, Int.reduceTDiv, Int.reduceTMod]
      refine ex_br (fun h => ?_) (fun h => ?_)
      · have h := of_decide_eq_true h
        have hbig := val_big hU hs (j := 10) (by decide) rfl (by omega)
        rw [if_neg hbig, decide_eq_false hbig]
        simp only [go_sem, ↓reduceIte, Nat.reduceLT, Nat.reduceLeDiff, Nat.reduceAdd, Nat.reduceSub, Nat.reduceMul, Nat.reduceEqDiff, Nat.reduceBEq, Nat.reduceMod, Nat.reduceDiv, Int.reduceToNat, reduceCtorEq, Int.reduceLT, Int.reduceLE, Int.reduceGT, Int.reduceGE, Int.reduceAdd, Int.reduceSub, Int.reduceMul, Int.reduceNeg, Int.reduceEq, Int.reduceNe, Int.reduceBNe, Int.reduceBEq, Int.reduceDiv]
        refine finTup ?_
        show resOf _ _ [.cell 4 45, .tmp 5] = _
        rw [hz4]
        simp only [go_sem, ↓reduceIte, Nat.reduceLT, Nat.reduceLeDiff, Nat.reduceAdd, Nat.reduceSub, Nat.reduceMul, Nat.reduceEqDiff, Nat.reduceBEq, Nat.reduceMod, Nat.reduceDiv, Int.reduceToNat, reduceCtorEq, Int.reduceLT, Int.reduceLE, Int.reduceGT, Int.reduceGE, Int.reduceAdd, Int.reduceSub, Int.reduceMul, Int.reduceNeg, Int.reduceEq, Int.reduceNe, Int.reduceBNe, Int.reduceBEq, Int.reduceDiv]
        try rfl
      have h2 := of_decide_eq_false h
      clear h
      simp only [go_sem, ↓reduceIte, Nat.reduceLT, Nat.reduceLeDiff, Nat.reduceAdd, Nat.reduceSub, Nat.reduceMul, Nat.reduceEqDiff, Nat.reduceBEq, Nat.reduceMod, Nat.reduceDiv, Int.reduceToNat, reduceCtorEq, Int.reduceLT, Int.reduceLE, Int.reduceGT, Int.reduceGE, Int.reduceAdd, Int.reduceSub, Int.reduceMul, Int.reduceNeg, Int.reduceEq, Int.reduceNe, Int.reduceBNe, Int.reduceBEq, Int.reduceDiv]
      refine ex_draw [15] [] (.quiet 0 (.quiet 1 (.quiet 2 (.quiet 3 (.quiet 4 (.quiet 5 (.quiet 6 (.quiet 7 (.quiet 8 (.quiet 9 (.quiet 10 (.quiet 11 (.quiet 12 (.quiet 13 (.quiet 14 (.unlock (.one 15 (.fin)))))))))))))))))) (by kernel_rfl) ?_
      simp only [cf, ex_seq, ex_block, ex_region, ex_ops_nil, ex_ops_cons, ex_ok, ex_need, ex_split_t, ex_split_f, ex_cond, ex_br_t, ex_br_f, ex_skip, ex_label, ex_scope, ex_exit, ex_ret, ex_keep, ex_inBlock_n, ex_inBlock_same, ex_inBlock_e, ex_inBlock_r, ex_code_e, ex_code_r, ex_rounds_e, ex_rounds_r, ex_ord_fin, ex_ord_quiet, ex_ord_one, ex_ord_unlock, ex_ord_lone, ex_ol, ex_oq_t, ex_oq_f, ex_nil, quietOp, loneOp, eltAddr, quietLoad, quietCallee, convQ, u8, moveR, moveTup, AV.isOwn, asU8, stepR, opR, ASt.rd, AV.seen, look, AV.const, AV.constC, AV.constG, AV.constCs, AV.constA, AV.nilOf, ASt.wr, Cfg.may, Cfg.round, roundQ, AV.dropR, AV.dropA, ASt.wrTo, R.chk, ASt.put, ASt.putOwn, ins, strike, consIf, keepL, keepV, AV.isBot, startSt, argsAt, allocR, ASt.newVar, AV.leansVar, AV.leans, AV.leansComp, assignR, ASt.take, ASt.takeO, ASt.at, cellAt, AV.compAt, ASt.drop, ASt.setCell, ASt.setCellO, ASt.dropComp, ASt.turn, binR, ASt.wrO, binInt, binAgg, isBoolK, isIntK, isSliceK, isFuncK, isInts, AV.eqInts, unVal, buildGo, partAt, partIn, placeOf, buildEnd, elemIn, elemsGo, elemsEnd, bsR, argOwnRef, argOwn, argImm, argsGo, callEnd, ASt.wrResTo, ASt.wrRes, pickR, boxR, loadOne, loadVar, wrImm, aggPart, AV.isAggV, loadElem, loadElt, loadR, storeOwn, AV.redir, redir, storeAl, storeRef, storeCells, storeVar, storePart, storeRow, storeElt, storeR, isU8, convBytes, convCont, convR, makeR, optI, cutSl, cutImm, cutStr, delV, ASt.freeVar, mkFnR, capR, capV, cutArr, cutR, addrR, structF, fieldR, idxSl, idxAddrR, idxR, extrOne, extrR, lenCont, lenR, appSrc, appRef, appTo, appR, maxR, fnOf, appKind, callFn, callLen, callApp, callMax, callR, grdO, grdT, TI.zeroVal, TK.isAgg, TK.known, Loc.plain, ASt.keep, ASt.imm, ASt.immRef, AV.isImm, AV.flat, AV.frz, AV.frz0, AV.mark, AV.elemsOf, AV.elemsO, ASt.cont, markFrom, putAt, resOf, resTup, resAll, resCons, resOne, resVar, resCells, resTmp, decide_true, decide_false, Bool.and_true, Bool.true_and, Bool.and_false, Bool.false_and, Bool.and_self, Bool.not_true, Bool.not_false, bq_t, bq_f, Bool.false_eq_true, Bool.true_eq_false, ↓reduceIte, Nat.reduceLT, Nat.reduceLeDiff, Nat.reduceAdd, Nat.reduceSub, Nat.reduceMul, Nat.reduceEqDiff, Nat.reduceBEq, Nat.lt_irrefl, Nat.zero_add, Nat.add_zero, Nat.mul_one, Nat.zero_mul, Nat.mul_zero, Nat.reduceMod, Nat.reduceDiv, Nat.zero_le, Nat.le_refl, Nat.beq, Int.reduceToNat, List.length_cons, List.length_nil, Option.isNone_none, Option.isNone_some, Option.bind_some, Option.bind_none, Option.map_some, Option.map_none, List.getElem?_cons_zero, List.getElem?_cons_succ, List.getElem?_nil, List.take_succ_cons, List.take_zero, List.take_nil, List.drop_succ_cons, List.drop_zero, List.drop_nil, List.map_cons, List.map_nil, List.cons_append, List.nil_append, List.append_nil, List.set_cons_zero, List.set_cons_succ, List.headD_cons, List.headD_nil, List.tail_cons, List.tail_nil, List.contains_cons, List.contains_nil, Bool.or_false, Bool.false_or, Bool.or_true, Bool.true_or, BEq.rfl, beq_self_eq_true, Nat.reduceBEq, List.replicate_zero, List.replicate_succ, List.isEmpty_nil, List.size_toArray, Array.isEmpty, List.reverse_nil, List.all_cons, List.all_nil, eq_self, true_and, and_true, false_and, and_false, and_self, not_true_eq_false, not_false_eq_true, reduceCtorEq, Loc.tmp.injEq, Loc.cell.injEq, Loc.comp.injEq, or_true, true_or, or_false, false_or, exists_const, Int.reduceLT, Int.reduceLE, Int.reduceGT, Int.reduceGE, Option.isSome_some, Option.isSome_none, Int.reduceAdd, Int.reduceSub, Int.reduceMul, Int.reduceNeg, Int.reduceEq, Int.reduceNe, Int.reduceBNe, Int.reduceBEq, ne_eq, Int.toNat_zero, Int.reduceDiv, forall_const, Nat.not_lt_zero, Nat.lt_add_one, ti1, ti2, ti3, ti4, ti5, ti6, ti7, ti8, ti9, ti10, ti11, ti12, ti13, ti14, ti21, ti22, ti23, ti24, ti25, ti26, ti27, ti28, ti29, ti31, ti33, ti34, ti35, ti36, ti38, ti39, ti40, ti41, ti42, ti43, ti44, ti45, ti46, ti47, ti48, ti49, ti50, ti51, ti53, ti55, ti56, ti57, ti58, ti59, ti60, ti61, ti62, ti64, ti65, ti66, ti67, ti68, ti70, ti72, ti74, ti75, ti76, ti77, ti78, ti79, ti80, ti82, ti83, ti84, ti85, ti86, ti87, ti89, ti90, ti91, ti92, ti93, ti94, ti95, ti96, ti97, ti98, ti99, ti100, ti101, ti102, ti103, ti104, ti105, ti106, ti107, ti108, ti109, ti110, ti111, ti112, ti113, ti114, ti115, ti116, ti118, ti120, ti121, ti122, ti123, ti124, ti125, ti126, ti128, ti129, ti130, ti131, ti137, ti138, ti139, ti140, ti141, ti143, ti144, Int.cast_ofNat_Int, wi64, Int.reduceTDiv, Int.reduceTMod, q0, q1, q2, q3, z0, z1, z2, z3]
      simp only [go_sem, ↓reduceIte, Nat.reduceLT, Nat.reduceLeDiff, Nat.reduceAdd, Nat.reduceSub, Nat.reduceMul, Nat.reduceEqDiff, Nat.reduceBEq, Nat.reduceMod, Nat.reduceDiv, Int.reduceToNat, reduceCtorEq, Int.reduceLT, Int.reduceLE, Int.reduceGT, Int.reduceGE, Int.reduceAdd, Int.reduceSub, Int.reduceMul, Int.reduceNeg, Int.reduceEq, Int.reduceNe, Int.reduceBNe, Int.reduceBEq, Int.reduceDiv, ex_round, Int.cast_ofNat_Int, wi64, Int.reduceTDiv, Int.reduceTMod]
      refine ex_br (fun h => ?_) (fun h => ?_)
      · have h := of_decide_eq_true h
        have hbig := val_big hU hs (j := 11) (by decide) rfl (by omega)
        rw [if_neg hbig, decide_eq_false hbig]
        simp only [go_sem, ↓reduceIte, Nat.reduceLT, Nat.reduceLeDiff, Nat.reduceAdd, Nat.reduceSub, Nat.reduceMul, Nat.reduceEqDiff, Nat.reduceBEq, Nat.reduceMod, Nat.reduceDiv, Int.reduceToNat, reduceCtorEq, Int.reduceLT, Int.reduceLE, Int.reduceGT, Int.reduceGE, Int.reduceAdd, Int.reduceSub, Int.reduceMul, Int.reduceNeg, Int.reduceEq, Int.reduceNe, Int.reduceBNe, Int.reduceBEq, Int.reduceDiv]
        refine finTup ?_
        show resOf _ _ [.cell 4 45, .tmp 5] = _
        rw [hz4]
        simp only [go_sem, ↓reduceIte, Nat.reduceLT, Nat.reduceLeDiff, Nat.reduceAdd, Nat.reduceSub, Nat.reduceMul, Nat.reduceEqDiff, Nat.reduceBEq, Nat.reduceMod, Nat.reduceDiv, Int.reduceToNat, reduceCtorEq, Int.reduceLT, Int.reduceLE, Int.reduceGT, Int.reduceGE, Int.reduceAdd, Int.reduceSub, Int.reduceMul, Int.reduceNeg, Int.reduceEq, Int.reduceNe, Int.reduceBNe, Int.reduceBEq, Int.reduceDiv]
        try rfl
      have h3 := of_decide_eq_false h
      clear h
      simp only [go_sem, ↓reduceIte, Nat.reduceLT, Nat.reduceLeDiff, Nat.reduceAdd, Nat.reduceSub, Nat.reduceMul, Nat.reduceEqDiff, Nat.reduceBEq, Nat.reduceMod, Nat.reduceDiv, Int.reduceToNat, reduceCtorEq, Int.reduceLT, Int.reduceLE, Int.reduceGT, Int.reduceGE, Int.reduceAdd, Int.reduceSub, Int.reduceMul, Int.reduceNeg, Int.reduceEq, Int.reduceNe, Int.reduceBNe, Int.reduceBEq, Int.reduceDiv]
      refine ex_draw [15] [] (.quiet 0 (.quiet 1 (.quiet 2 (.quiet 3 (.quiet 4 (.quiet 5 (.quiet 6 (.quiet 7 (.quiet 8 (.quiet 9 (.quiet 10 (.quiet 11 (.quiet 12 (.quiet 13 (.quiet 14 (.unlock (.one 15 (.fin)))))))))))))))))) (by kernel_rfl) ?_
      simp only [cf, ex_seq, ex_block, ex_region, ex_ops_nil, ex_ops_cons, ex_ok, ex_need, ex_split_t, ex_split_f, ex_cond, ex_br_t, ex_br_f, ex_skip, ex_label, ex_scope, ex_exit, ex_ret, ex_keep, ex_inBlock_n, ex_inBlock_same, ex_inBlock_e, ex_inBlock_r, ex_code_e, ex_code_r, ex_rounds_e, ex_rounds_r, ex_ord_fin, ex_ord_quiet, ex_ord_one, ex_ord_unlock, ex_ord_lone, ex_ol, ex_oq_t, ex_oq_f, ex_nil, quietOp, loneOp, eltAddr, quietLoad, quietCallee, convQ, u8, moveR, moveTup, AV.isOwn, asU8, stepR, opR, ASt.rd, AV.seen, look, AV.const, AV.constC, AV.constG, AV.constCs, AV.constA, AV.nilOf, ASt.wr, Cfg.may, Cfg.round, roundQ, AV.dropR, AV.dropA, ASt.wrTo, R.chk, ASt.put, ASt.putOwn, ins, strike, consIf, keepL, keepV, AV.isBot, startSt, argsAt, allocR, ASt.newVar, AV.leansVar, AV.leans, AV.leansComp, assignR, ASt.take, ASt.takeO, ASt.at, cellAt, AV.compAt, ASt.drop, ASt.setCell, ASt.setCellO, ASt.dropComp, ASt.turn, binR, ASt.wrO, binInt, binAgg, isBoolK, isIntK, isSliceK, isFuncK, isInts, AV.eqInts, unVal, buildGo, partAt, partIn, placeOf, buildEnd, elemIn, elemsGo, elemsEnd, bsR, argOwnRef, argOwn, argImm, argsGo, callEnd, ASt.wrResTo, ASt.wrRes, pickR, boxR, loadOne, loadVar, wrImm, aggPart, AV.isAggV, loadElem, loadElt, loadR, storeOwn, AV.redir, redir, storeAl, storeRef, storeCells, storeVar, storePart, storeRow, storeElt, storeR, isU8, convBytes, convCont, convR, makeR, optI, cutSl, cutImm, cutStr, delV, ASt.freeVar, mkFnR, capR, capV, cutArr, cutR, addrR, structF, fieldR, idxSl, idxAddrR, idxR, extrOne, extrR, lenCont, lenR, appSrc, appRef, appTo, appR, maxR, fnOf, appKind, callFn, callLen, callApp, callMax, callR, grdO, grdT, TI.zeroVal, TK.isAgg, TK.known, Loc.plain, ASt.keep, ASt.imm, ASt.immRef, AV.isImm, AV.flat, AV.frz, AV.frz0, AV.mark, AV.elemsOf, AV.elemsO, ASt.cont, markFrom, putAt, resOf, resTup, resAll, resCons, resOne, resVar, resCells, resTmp, decide_true, decide_false, Bool.and_true, Bool.true_and, Bool.and_false, Bool.false_and, Bool.and_self, Bool.not_true, Bool.not_false, bq_t, bq_f, Bool.false_eq_true, Bool.true_eq_false, ↓reduceIte, Nat.reduceLT, Nat.reduceLeDiff, Nat.reduceAdd, Nat.reduceSub, Nat.reduceMul, Nat.reduceEqDiff, Nat.reduceBEq, Nat.lt_irrefl, Nat.zero_add, Nat.add_zero, Nat.mul_one, Nat.zero_mul, Nat.mul_zero, Nat.reduceMod, Nat.reduceDiv, Nat.zero_le, Nat.le_refl, Nat.beq, Int.reduceToNat, List.length_cons, List.length_nil, Option.isNone_none, Option.isNone_some, Option.bind_some, Option.bind_none, Option.map_some, Option.map_none, List.getElem?_cons_zero, List.getElem?_cons_succ, List.getElem?_nil, List.take_succ_cons, List.take_zero, List.take_nil, List.drop_succ_cons, List.drop_zero, List.drop_nil, List.map_cons, List.map_nil, List.cons_append, List.nil_append, List.append_nil, List.set_cons_zero, List.set_cons_succ, List.headD_cons, List.headD_nil, List.tail_cons, List.tail_nil, List.contains_cons, List.contains_nil, Bool.or_false, Bool.false_or, Bool.or_true, Bool.true_or, BEq.rfl, beq_self_eq_true, Nat.reduceBEq, List.replicate_zero, List.replicate_succ, List.isEmpty_nil, List.size_toArray, Array.isEmpty, List.reverse_nil, List.all_cons, List.all_nil, eq_self, true_and, and_true, false_and, and_false, and_self, not_true_eq_false, not_false_eq_true, reduceCtorEq, Loc.tmp.injEq, Loc.cell.injEq, Loc.comp.injEq, or_true, true_or, or_false, false_or, exists_const, Int.reduceLT, Int.reduceLE, Int.reduceGT, Int.reduceGE, Option.isSome_some, Option.isSome_none, Int.reduceAdd, Int.reduceSub, Int.reduceMul, Int.reduceNeg, Int.reduceEq, Int.reduceNe, Int.reduceBNe, Int.reduceBEq, ne_eq, Int.toNat_zero, Int.reduceDiv, forall_const, Nat.not_lt_zero, Nat.lt_add_one, ti1, ti2, ti3, ti4, ti5, ti6, ti7, ti8, ti9, ti10, ti11, ti12, ti13, ti14, ti21, ti22, ti23, ti24, ti25, ti26, ti27, ti28, ti29, ti31, ti33, ti34, ti35, ti36, ti38, ti39, ti40, ti41, ti42, ti43, ti44, ti45, ti46, ti47, ti48, ti49, ti50, ti51, ti53, ti55, ti56, ti57, ti58, ti59, ti60, ti61, ti62, ti64, ti65, ti66, ti67, ti68, ti70, ti72, ti74, ti75, ti76, ti77, ti78, ti79, ti80, ti82, ti83, ti84, ti85, ti86, ti87, ti89, ti90, ti91, ti92, ti93, ti94, ti95, ti96, ti97, ti98, ti99, ti100, ti101, ti102, ti103, ti104, ti105, ti106, ti107, ti108, ti109, ti110, ti111, ti112, ti113, ti114, ti115, ti116, ti118, ti120, ti121, ti122, ti123, ti124, ti125, ti126, ti128, ti129, ti130, ti131, ti137, ti138, ti139, ti140, ti141, ti143, ti144, Int.cast_ofNat_Int, wi64, Int.reduceTDiv, Int.reduceTMod, q0, q1, q2, q3, z0, z1, z2, z3]
      simp only [go_sem, ↓reduceIte, Nat.reduceLT, Nat.reduceLeDiff, Nat.reduceAdd, Nat.reduceSub, Nat.reduceMul, Nat.reduceEqDiff, Nat.reduceBEq, Nat.reduceMod, Nat.reduceDiv, Int.reduceToNat, reduceCtorEq, Int.reduceLT, Int.reduceLE, Int.reduceGT, Int.reduceGE, Int.reduceAdd, Int.reduceSub, Int.reduceMul, Int.reduceNeg, Int.reduceEq, Int.reduceNe, Int.reduceBNe, Int.reduceBEq, Int.reduceDiv, ex_round, Int.cast_ofNat_Int, wi64, Int.reduceTDiv, Int.reduceTMod]
      refine ex_br (fun h => ?_) (fun h => ?_)
      · have h := of_decide_eq_true h
        have hbig := val_big hU hs (j := 12) (by decide) rfl (by omega)
        rw [if_neg hbig, decide_eq_false hbig]
        simp only [go_sem, ↓reduceIte, Nat.reduceLT, Nat.reduceLeDiff, Nat.reduceAdd, Nat.reduceSub, Nat.reduceMul, Nat.reduceEqDiff, Nat.reduceBEq, Nat.reduceMod, Nat.reduceDiv, Int.reduceToNat, reduceCtorEq, Int.reduceLT, Int.reduceLE, Int.reduceGT, Int.reduceGE, Int.reduceAdd, Int.reduceSub, Int.reduceMul, Int.reduceNeg, Int.reduceEq, Int.reduceNe, Int.reduceBNe, Int.reduceBEq, Int.reduceDiv]
        refine finTup ?_
        show resOf _ _ [.cell 4 45, .tmp 5] = _
        rw [hz4]
        simp only [go_sem, ↓reduceIte, Nat.reduceLT, Nat.reduceLeDiff, Nat.reduceAdd, Nat.reduceSub, Nat.reduceMul, Nat.reduceEqDiff, Nat.reduceBEq, Nat.reduceMod, Nat.reduceDiv, Int.reduceToNat, reduceCtorEq, Int.reduceLT, Int.reduceLE, Int.reduceGT, Int.reduceGE, Int.reduceAdd, Int.reduceSub, Int.reduceMul, Int.reduceNeg, Int.reduceEq, Int.reduceNe, Int.reduceBNe, Int.reduceBEq, Int.reduceDiv]
        try rfl
      have h4 := of_decide_eq_false h
      clear h
      simp only [go_sem, ↓reduceIte, Nat.reduceLT, Nat.reduceLeDiff, Nat.reduceAdd, Nat.reduceSub, Nat.reduceMul, Nat.reduceEqDiff, Nat.reduceBEq, Nat.reduceMod, Nat.reduceDiv, Int.reduceToNat, reduceCtorEq, Int.reduceLT, Int.reduceLE, Int.reduceGT, Int.reduceGE, Int.reduceAdd, Int.reduceSub, Int.reduceMul, Int.reduceNeg, Int.reduceEq, Int.reduceNe, Int.reduceBNe, Int.reduceBEq, Int.reduceDiv]
      refine ex_draw [15] [] (.quiet 0 (.quiet 1 (.quiet 2 (.quiet 3 (.quiet 4 (.quiet 5 (.quiet 6 (.quiet 7 (.quiet 8 (.quiet 9 (.quiet 10 (.quiet 11 (.quiet 12 (.quiet 13 (.quiet 14 (.unlock (.one 15 (.fin)))))))))))))))))) (by kernel_rfl) ?_
      simp only [cf, ex_seq, ex_block, ex_region, ex_ops_nil, ex_ops_cons, ex_ok, ex_need, ex_split_t, ex_split_f, ex_cond, ex_br_t, ex_br_f, ex_skip, ex_label, ex_scope, ex_exit, ex_ret, ex_keep, ex_inBlock_n, ex_inBlock_same, ex_inBlock_e, ex_inBlock_r, ex_code_e, ex_code_r, ex_rounds_e, ex_rounds_r, ex_ord_fin, ex_ord_quiet, ex_ord_one, ex_ord_unlock, ex_ord_lone, ex_ol, ex_oq_t, ex_oq_f, ex_nil, quietOp, loneOp, eltAddr, quietLoad, quietCallee, convQ, u8, moveR, moveTup, AV.isOwn, asU8, stepR, opR, ASt.rd, AV.seen, look, AV.const, AV.constC, AV.constG, AV.constCs, AV.constA, AV.nilOf, ASt.wr, Cfg.may, Cfg.round, roundQ, AV.dropR, AV.dropA, ASt.wrTo, R.chk, ASt.put, ASt.putOwn, ins, strike, consIf, keepL, keepV, AV.isBot, startSt, argsAt, allocR, ASt.newVar, AV.leansVar, AV.leans, AV.leansComp, assignR, ASt.take, ASt.takeO, ASt.at, cellAt, AV.compAt, ASt.drop, ASt.setCell, ASt.setCellO, ASt.dropComp, ASt.turn, binR, ASt.wrO, binInt, binAgg, isBoolK, isIntK, isSliceK, isFuncK, isInts, AV.eqInts, unVal, buildGo, partAt, partIn, placeOf, buildEnd, elemIn, elemsGo, elemsEnd, bsR, argOwnRef, argOwn, argImm, argsGo, callEnd, ASt.wrResTo, ASt.wrRes, pickR, boxR, loadOne, loadVar, wrImm, aggPart, AV.isAggV, loadElem, loadElt, loadR, storeOwn, AV.redir, redir, storeAl, storeRef, storeCells, storeVar, storePart, storeRow, storeElt, storeR, isU8, convBytes, convCont, convR, makeR, optI, cutSl, cutImm, cutStr, delV, ASt.freeVar, mkFnR, capR, capV, cutArr, cutR, addrR, structF, fieldR, idxSl, idxAddrR, idxR, extrOne, extrR, lenCont, lenR, appSrc, appRef, appTo, appR, maxR, fnOf, appKind, callFn, callLen, callApp, callMax, callR, grdO, grdT, TI.zeroVal, TK.isAgg, TK.known, Loc.plain, ASt.keep, ASt.imm, ASt.immRef, AV.isImm, AV.flat, AV.frz, AV.frz0, AV.mark, AV.elemsOf, AV.elemsO, ASt.cont, markFrom, putAt, resOf, resTup, resAll, resCons, resOne, resVar, resCells, resTmp, decide_true, decide_false, Bool.and_true, Bool.true_and, Bool.and_false, Bool.false_and, Bool.and_self, Bool.not_true, Bool.not_false, bq_t, bq_f, Bool.false_eq_true, Bool.true_eq_false, ↓reduceIte, Nat.reduceLT, Nat.reduceLeDiff, Nat.reduceAdd, Nat.reduceSub, Nat.reduceMul, Nat.reduceEqDiff, Nat.reduceBEq, Nat.lt_irrefl, Nat.zero_add, Nat.add_zero, Nat.mul_one, Nat.zero_mul, Nat.mul_zero, Nat.reduceMod, Nat.reduceDiv, Nat.zero_le, Nat.le_refl, Nat.beq, Int.reduceToNat, List.length_cons, List.length_nil, Option.isNone_none, Option.isNone_some, Option.bind_some, Option.bind_none, Option.map_some, Option.map_none, List.getElem?_cons_zero, List.getElem?_cons_succ, List.getElem?_nil, List.take_succ_cons, List.take_zero, List.take_nil, List.drop_succ_cons, List.drop_zero, List.drop_nil, List.map_cons, List.map_nil, List.cons_append, List.nil_append, List.append_nil, List.set_cons_zero, List.set_cons_succ, List.headD_cons, List.headD_nil, List.tail_cons, List.tail_nil, List.contains_cons, List.contains_nil, Bool.or_false, Bool.false_or, Bool.or_true, Bool.true_or, BEq.rfl, beq_self_eq_true, Nat.reduceBEq, List.replicate_zero, List.replicate_succ, List.isEmpty_nil, List.size_toArray, Array.isEmpty, List.reverse_nil, List.all_cons, List.all_nil, eq_self, true_and, and_true, false_and, and_false, and_self, not_true_eq_false, not_false_eq_true, reduceCtorEq, Loc.tmp.injEq, Loc.cell.injEq, Loc.comp.injEq, or_true, true_or, or_false, false_or, exists_const, Int.reduceLT, Int.reduceLE, Int.reduceGT, Int.reduceGE, Option.isSome_some, Option.isSome_none, Int.reduceAdd, Int.reduceSub, Int.reduceMul, Int.reduceNeg, Int.reduceEq, Int.reduceNe, Int.reduceBNe, Int.reduceBEq, ne_eq, Int.toNat_zero, Int.reduceDiv, forall_const, Nat.not_lt_zero, Nat.lt_add_one, ti1, ti2, ti3, ti4, ti5, ti6, ti7, ti8, ti9, ti10, ti11, ti12, ti13, ti14, ti21, ti22, ti23, ti24, ti25, ti26, ti27, ti28, ti29, ti31, ti33, ti34, ti35, ti36, ti38, ti39, ti40, ti41, ti42, ti43, ti44, ti45, ti46, ti47, ti48, ti49, ti50, ti51, ti53, ti55, ti56, ti57, ti58, ti59, ti60, ti61, ti62, ti64, ti65, ti66, ti67, ti68, ti70, ti72, ti74, ti75, ti76, ti77, ti78, ti79, ti80, ti82, ti83, ti84, ti85, ti86, ti87, ti89, ti90, ti91, ti92, ti93, ti94, ti95, ti96, ti97, ti98, ti99, ti100, ti101, ti102, ti103, ti104, ti105, ti106, ti107, ti108, ti109, ti110, ti111, ti112, ti113, ti114, ti115, ti116, ti118, ti120, ti121, ti122, ti123, ti124, ti125, ti126, ti128, ti129, ti130, ti131, ti137, ti138, ti139, ti140, ti141, ti143, ti144, Int.cast_ofNat_Int, wi64, Int.reduceTDiv, Int.reduceTMod, q0, q1, q2, q3, z0, z1, z2, z3]
      simp only [go_sem, ↓reduceIte, Nat.reduceLT, Nat.reduceLeDiff, Nat.reduceAdd, Nat.reduceSub, Nat.reduceMul, Nat.reduceEqDiff, Nat.reduceBEq, Nat.reduceMod, Nat.reduceDiv, Int.reduceToNat, reduceCtorEq, Int.reduceLT, Int.reduceLE, Int.reduceGT, Int.reduceGE, Int.reduceAdd, Int.reduceSub, Int.reduceMul, Int.reduceNeg, Int.reduceEq, Int.reduceNe, Int.reduceBNe, Int.reduceBEq, Int.reduceDiv, ex_round, Int.cast_ofNat_Int, wi64, Int.reduceTDiv, Int.reduceTMod]
      refine ex_br (fun h => ?_) (fun h => ?_)
      · have h := of_decide_eq_true h
        have hbig := val_big hU hs (j := 13) (by decide) rfl (by omega)
        rw [if_neg hbig, decide_eq_false hbig]
        simp only [go_sem, ↓reduceIte, Nat.reduceLT, Nat.reduceLeDiff, Nat.reduceAdd, Nat.reduceSub, Nat.reduceMul, Nat.reduceEqDiff, Nat.reduceBEq, Nat.reduceMod, Nat.reduceDiv, Int.reduceToNat, reduceCtorEq, Int.reduceLT, Int.reduceLE, Int.reduceGT, Int.reduceGE, Int.reduceAdd, Int.reduceSub, Int.reduceMul, Int.reduceNeg, Int.reduceEq, Int.reduceNe, Int.reduceBNe, Int.reduceBEq, Int.reduceDiv]
        refine finTup ?_
        show resOf _ _ [.cell 4 45, .tmp 5] = _
        rw [hz4]
        simp only [go_sem, ↓reduceIte, Nat.reduceLT, Nat.reduceLeDiff, Nat.reduceAdd, Nat.reduceSub, Nat.reduceMul, Nat.reduceEqDiff, Nat.reduceBEq, Nat.reduceMod, Nat.reduceDiv, Int.reduceToNat, reduceCtorEq, Int.reduceLT, Int.reduceLE, Int.reduceGT, Int.reduceGE, Int.reduceAdd, Int.reduceSub, Int.reduceMul, Int.reduceNeg, Int.reduceEq, Int.reduceNe, Int.reduceBNe, Int.reduceBEq, Int.reduceDiv]
        try rfl
      have h5 := of_decide_eq_false h
      clear h
      simp only [go_sem, ↓reduceIte, Nat.reduceLT, Nat.reduceLeDiff, Nat.reduceAdd, Nat.reduceSub, Nat.reduceMul, Nat.reduceEqDiff, Nat.reduceBEq, Nat.reduceMod, Nat.reduceDiv, Int.reduceToNat, reduceCtorEq, Int.reduceLT, Int.reduceLE, Int.reduceGT, Int.reduceGE, Int.reduceAdd, Int.reduceSub, Int.reduceMul, Int.reduceNeg, Int.reduceEq, Int.reduceNe, Int.reduceBNe, Int.reduceBEq, Int.reduceDiv]
      refine ex_draw [15] [] (.quiet 0 (.quiet 1 (.quiet 2 (.quiet 3 (.quiet 4 (.quiet 5 (.quiet 6 (.quiet 7 (.quiet 8 (.quiet 9 (.quiet 10 (.quiet 11 (.quiet 12 (.quiet 13 (.quiet 14 (.unlock (.one 15 (.fin)))))))))))))))))) (by kernel_rfl) ?_
      simp only [cf, ex_seq, ex_block, ex_region, ex_ops_nil, ex_ops_cons, ex_ok, ex_need, ex_split_t, ex_split_f, ex_cond, ex_br_t, ex_br_f, ex_skip, ex_label, ex_scope, ex_exit, ex_ret, ex_keep, ex_inBlock_n, ex_inBlock_same, ex_inBlock_e, ex_inBlock_r, ex_code_e, ex_code_r, ex_rounds_e, ex_rounds_r, ex_ord_fin, ex_ord_quiet, ex_ord_one, ex_ord_unlock, ex_ord_lone, ex_ol, ex_oq_t, ex_oq_f, ex_nil, quietOp, loneOp, eltAddr, quietLoad, quietCallee, convQ, u8, moveR, moveTup, AV.isOwn, asU8, stepR, opR, ASt.rd, AV.seen, look, AV.const, AV.constC, AV.constG, AV.constCs, AV.constA, AV.nilOf, ASt.wr, Cfg.may, Cfg.round, roundQ, AV.dropR, AV.dropA, ASt.wrTo, R.chk, ASt.put, ASt.putOwn, ins, strike, consIf, keepL, keepV, AV.isBot, startSt, argsAt, allocR, ASt.newVar, AV.leansVar, AV.leans, AV.leansComp, assignR, ASt.take, ASt.takeO, ASt.at, cellAt, AV.compAt, ASt.drop, ASt.setCell, ASt.setCellO, ASt.dropComp, ASt.turn, binR, ASt.wrO, binInt, binAgg, isBoolK, isIntK, isSliceK, isFuncK, isInts, AV.eqInts, unVal, buildGo, partAt, partIn, placeOf, buildEnd, elemIn, elemsGo, elemsEnd, bsR, argOwnRef, argOwn, argImm, argsGo, callEnd, ASt.wrResTo, ASt.wrRes, pickR, boxR, loadOne, loadVar, wrImm, aggPart, AV.isAggV, loadElem, loadElt, loadR, storeOwn, AV.redir, redir, storeAl, storeRef, storeCells, storeVar, storePart, storeRow, storeElt, storeR, isU8, convBytes, convCont, convR, makeR, optI, cutSl, cutImm, cutStr, delV, ASt.freeVar, mkFnR, capR, capV, cutArr, cutR, addrR, structF, fieldR, idxSl, idxAddrR, idxR, extrOne, extrR, lenCont, lenR, appSrc, appRef, appTo, appR, maxR, fnOf, appKind, callFn, callLen, callApp, callMax, callR, grdO, grdT, TI.zeroVal, TK.isAgg, TK.known, Loc.plain, ASt.keep, ASt.imm, ASt.immRef, AV.isImm, AV.flat, AV.frz, AV.frz0, AV.mark, AV.elemsOf, AV.elemsO, ASt.cont, markFrom, putAt, resOf, resTup, resAll, resCons, resOne, resVar, resCells, resTmp, decide_true, decide_false, Bool.and_true, Bool.true_and, Bool.and_false, Bool.false_and, Bool.and_self, Bool.not_true, Bool.not_false, bq_t, bq_f, Bool.false_eq_true, Bool.true_eq_false, ↓reduceIte, Nat.reduceLT, Nat.reduceLeDiff, Nat.reduceAdd, Nat.reduceSub, Nat.reduceMul, Nat.reduceEqDiff, Nat.reduceBEq, Nat.lt_irrefl, Nat.zero_add, Nat.add_zero, Nat.mul_one, Nat.zero_mul, Nat.mul_zero, Nat.reduceMod, Nat.reduceDiv, Nat.zero_le, Nat.le_refl, Nat.beq, Int.reduceToNat, List.length_cons, List.length_nil, Option.isNone_none, Option.isNone_some, Option.bind_some, Option.bind_none, Option.map_some, Option.map_none, List.getElem?_cons_zero, List.getElem?_cons_succ, List.getElem?_nil, List.take_succ_cons, List.take_zero, List.take_nil, List.drop_succ_cons, List.drop_zero, List.drop_nil, List.map_cons, List.map_nil, List.cons_append, List.nil_append, List.append_nil, List.set_cons_zero, List.set_cons_succ, List.headD_cons, List.headD_nil, List.tail_cons, List.tail_nil, List.contains_cons, List.contains_nil, Bool.or_false, Bool.false_or, Bool.or_true, Bool.true_or, BEq.rfl, beq_self_eq_true, Nat.reduceBEq, List.replicate_zero, List.replicate_succ, List.isEmpty_nil, List.size_toArray, Array.isEmpty, List.reverse_nil, List.all_cons, List.all_nil, eq_self, true_and, and_true, false_and, and_false, and_self, not_true_eq_false, not_false_eq_true, reduceCtorEq, Loc.tmp.injEq, Loc.cell.injEq, Loc.comp.injEq, or_true, true_or, or_false, false_or, exists_const, Int.reduceLT, Int.reduceLE, Int.reduceGT, Int.reduceGE, Option.isSome_some, Option.isSome_none, Int.reduceAdd, Int.reduceSub, Int.reduceMul, Int.reduceNeg, Int.reduceEq, Int.reduceNe, Int.reduceBNe, Int.reduceBEq, ne_eq, Int.toNat_zero, Int.reduceDiv, forall_const, Nat.not_lt_zero, Nat.lt_add_one, ti1, ti2, ti3, ti4, ti5, ti6, ti7, ti8, ti9, ti10, ti11, ti12, ti13, ti14, ti21, ti22, ti23, ti24, ti25, ti26, ti27, ti28, ti29, ti31, ti33, ti34, ti35, ti36, ti38, ti39, ti40, ti41, ti42, ti43, ti44, ti45, ti46, ti47, ti48, ti49, ti50, ti51, ti53, ti55, ti56, ti57, ti58, ti59, ti60, ti61, ti62, ti64, ti65, ti66, ti67, ti68, ti70, ti72, ti74, ti75, ti76, ti77, ti78, ti79, ti80, ti82, ti83, ti84, ti85, ti86, ti87, ti89, ti90, ti91, ti92, ti93, ti94, ti95, ti96, ti97, ti98, ti99, ti100, ti101, ti102, ti103, ti104, ti105, ti106, ti107, ti108, ti109, ti110, ti111, ti112, ti113, ti114, ti115, ti116, ti118, ti120, ti121, ti122, ti123, ti124, ti125, ti126, ti128, ti129, ti130, ti131, ti137, ti138, ti139, ti140, ti141, ti143, ti144, Int.cast_ofNat_Int, wi64, Int.reduceTDiv, Int.reduceTMod, q0, q1, q2, q3, z0, z1, z2, z3]
      simp only [go_sem, ↓reduceIte, Nat.reduceLT, Nat.reduceLeDiff, Nat.reduceAdd, Nat.reduceSub, Nat.reduceMul, Nat.reduceEqDiff, Nat.reduceBEq, Nat.reduceMod, Nat.reduceDiv, Int.reduceToNat, reduceCtorEq, Int.reduceLT, Int.reduceLE, Int.reduceGT, Int.reduceGE, Int.reduceAdd, Int.reduceSub, Int.reduceMul, Int.reduceNeg, Int.reduceEq, Int.reduceNe, Int.reduceBNe, Int.reduceBEq, Int.reduceDiv, ex_round, Int.cast_ofNat_Int, wi64, Int.reduceTDiv, Int.reduceTMod]
      refine ex_br (fun h => ?_) (fun h => ?_)
      · have h := of_decide_eq_true h
        have hbig := val_big hU hs (j := 14) (by decide) rfl (by omega)
        rw [if_neg hbig, decide_eq_false hbig]
        simp only [go_sem, ↓reduceIte, Nat.reduceLT, Nat.reduceLeDiff, Nat.reduceAdd, Nat.reduceSub, Nat.reduceMul, Nat.reduceEqDiff, Nat.reduceBEq, Nat.reduceMod, Nat.reduceDiv, Int.reduceToNat, reduceCtorEq, Int.reduceLT, Int.reduceLE, Int.reduceGT, Int.reduceGE, Int.reduceAdd, Int.reduceSub, Int.reduceMul, Int.reduceNeg, Int.reduceEq, Int.reduceNe, Int.reduceBNe, Int.reduceBEq, Int.reduceDiv]
        refine finTup ?_
        show resOf _ _ [.cell 4 45, .tmp 5] = _
        rw [hz4]
        simp only [go_sem, ↓reduceIte, Nat.reduceLT, Nat.reduceLeDiff, Nat.reduceAdd, Nat.reduceSub, Nat.reduceMul, Nat.reduceEqDiff, Nat.reduceBEq, Nat.reduceMod, Nat.reduceDiv, Int.reduceToNat, reduceCtorEq, Int.reduceLT, Int.reduceLE, Int.reduceGT, Int.reduceGE, Int.reduceAdd, Int.reduceSub, Int.reduceMul, Int.reduceNeg, Int.reduceEq, Int.reduceNe, Int.reduceBNe, Int.reduceBEq, Int.reduceDiv]
        try rfl
      have h6 := of_decide_eq_false h
      clear h
      simp only [go_sem, ↓reduceIte, Nat.reduceLT, Nat.reduceLeDiff, Nat.reduceAdd, Nat.reduceSub, Nat.reduceMul, Nat.reduceEqDiff, Nat.reduceBEq, Nat.reduceMod, Nat.reduceDiv, Int.reduceToNat, reduceCtorEq, Int.reduceLT, Int.reduceLE, Int.reduceGT, Int.reduceGE, Int.reduceAdd, Int.reduceSub, Int.reduceMul, Int.reduceNeg, Int.reduceEq, Int.reduceNe, Int.reduceBNe, Int.reduceBEq, Int.reduceDiv]
      refine ex_draw [15] [] (.quiet 0 (.quiet 1 (.quiet 2 (.quiet 3 (.quiet 4 (.quiet 5 (.quiet 6 (.quiet 7 (.quiet 8 (.quiet 9 (.quiet 10 (.quiet 11 (.quiet 12 (.quiet 13 (.quiet 14 (.unlock (.one 15 (.fin)))))))))))))))))) (by kernel_rfl) ?_
      simp only [cf, ex_seq, ex_block, ex_region, ex_ops_nil, ex_ops_cons, ex_ok, ex_need, ex_split_t, ex_split_f, ex_cond, ex_br_t, ex_br_f, ex_skip, ex_label, ex_scope, ex_exit, ex_ret, ex_keep, ex_inBlock_n, ex_inBlock_same, ex_inBlock_e, ex_inBlock_r, ex_code_e, ex_code_r, ex_rounds_e, ex_rounds_r, ex_ord_fin, ex_ord_quiet, ex_ord_one, ex_ord_unlock, ex_ord_lone, ex_ol, ex_oq_t, ex_oq_f, ex_nil, quietOp, loneOp, eltAddr, quietLoad, quietCallee, convQ, u8, moveR, moveTup, AV.isOwn, asU8, stepR, opR, ASt.rd, AV.seen, look, AV.const, AV.constC, AV.constG, AV.constCs, AV.constA, AV.nilOf, ASt.wr, Cfg.may, Cfg.round, roundQ, AV.dropR, AV.dropA, ASt.wrTo, R.chk, ASt.put, ASt.putOwn, ins, strike, consIf, keepL, keepV, AV.isBot, startSt, argsAt, allocR, ASt.newVar, AV.leansVar, AV.leans, AV.leansComp, assignR, ASt.take, ASt.takeO, ASt.at, cellAt, AV.compAt, ASt.drop, ASt.setCell, ASt.setCellO, ASt.dropComp, ASt.turn, binR, ASt.wrO, binInt, binAgg, isBoolK, isIntK, isSliceK, isFuncK, isInts, AV.eqInts, unVal, buildGo, partAt, partIn, placeOf, buildEnd, elemIn, elemsGo, elemsEnd, bsR, argOwnRef, argOwn, argImm, argsGo, callEnd, ASt.wrResTo, ASt.wrRes, pickR, boxR, loadOne, loadVar, wrImm, aggPart, AV.isAggV, loadElem, loadElt, loadR, storeOwn, AV.redir, redir, storeAl, storeRef, storeCells, storeVar, storePart, storeRow, storeElt, storeR, isU8, convBytes, convCont, convR, makeR, optI, cutSl, cutImm, cutStr, delV, ASt.freeVar, mkFnR, capR, capV, cutArr, cutR, addrR, structF, fieldR, idxSl, idxAddrR, idxR, extrOne, extrR, lenCont, lenR, appSrc, appRef, appTo, appR, maxR, fnOf, appKind, callFn, callLen, callApp, callMax, callR, grdO, grdT, TI.zeroVal, TK.isAgg, TK.known, Loc.plain, ASt.keep, ASt.imm, ASt.immRef, AV.isImm, AV.flat, AV.frz, AV.frz0, AV.mark, AV.elemsOf, AV.elemsO, ASt.cont, markFrom, putAt, resOf, resTup, resAll, resCons, resOne, resVar, resCells, resTmp, decide_true, decide_false, Bool.and_true, Bool.true_and, Bool.and_false, Bool.false_and, Bool.and_self, Bool.not_true, Bool.not_false, bq_t, bq_f, Bool.false_eq_true, Bool.true_eq_false, ↓reduceIte, Nat.reduceLT, Nat.reduceLeDiff, Nat.reduceAdd, Nat.reduceSub, Nat.reduceMul, Nat.reduceEqDiff, Nat.reduceBEq, Nat.lt_irrefl, Nat.zero_add, Nat.add_zero, Nat.mul_one, Nat.zero_mul, Nat.mul_zero, Nat.reduceMod, Nat.reduceDiv, Nat.zero_le, Nat.le_refl, Nat.beq, Int.reduceToNat, List.length_cons, List.length_nil, Option.isNone_none, Option.isNone_some, Option.bind_some, Option.bind_none, Option.map_some, Option.map_none, List.getElem?_cons_zero, List.getElem?_cons_succ, List.getElem?_nil, List.take_succ_cons, List.take_zero, List.take_nil, List.drop_succ_cons, List.drop_zero, List.drop_nil, List.map_cons, List.map_nil, List.cons_append, List.nil_append, List.append_nil, List.set_cons_zero, List.set_cons_succ, List.headD_cons, List.headD_nil, List.tail_cons, List.tail_nil, List.contains_cons, List.contains_nil, Bool.or_false, Bool.false_or, Bool.or_true, Bool.true_or, BEq.rfl, beq_self_eq_true, Nat.reduceBEq, List.replicate_zero, List.replicate_succ, List.isEmpty_nil, List.size_toArray, Array.isEmpty, List.reverse_nil, List.all_cons, List.all_nil, eq_self, true_and, and_true, false_and, and_false, and_self, not_true_eq_false, not_false_eq_true, reduceCtorEq, Loc.tmp.injEq, Loc.cell.injEq, Loc.comp.injEq, or_true, true_or, or_false, false_or, exists_const, Int.reduceLT, Int.reduceLE, Int.reduceGT, Int.reduceGE, Option.isSome_some, Option.isSome_none, Int.reduceAdd, Int.reduceSub, Int.reduceMul, Int.reduceNeg, Int.reduceEq, Int.reduceNe, Int.reduceBNe, Int.reduceBEq, ne_eq, Int.toNat_zero, Int.reduceDiv, forall_const, Nat.not_lt_zero, Nat.lt_add_one, ti1, ti2, ti3, ti4, ti5, ti6, ti7, ti8, ti9, ti10, ti11, ti12, ti13, ti14, ti21, ti22, ti23, ti24, ti25, ti26, ti27, ti28, ti29, ti31, ti33, ti34, ti35, ti36, ti38, ti39, ti40, ti41, ti42, ti43, ti44, ti45, ti46, ti47, ti48, ti49, ti50, ti51, ti53, ti55, ti56, ti57, ti58, ti59, ti60, ti61, ti62, ti64, ti65, ti66, ti67, ti68, ti70, ti72, ti74, ti75, ti76, ti77, ti78, ti79, ti80, ti82, ti83, ti84, ti85, ti86, ti87, ti89, ti90, ti91, ti92, ti93, ti94, ti95, ti96, ti97, ti98, ti99, ti100, ti101, ti102, ti103, ti104, ti105, ti106, ti107, ti108, ti109, ti110, ti111, ti112, ti113, ti114, ti115, ti116, ti118, ti120, ti121, ti122, ti123, ti124, ti125, ti126, ti128, ti129, ti130, ti131, ti137, ti138, ti139, ti140, ti141, ti143, ti144, Int.cast_ofNat_Int, wi64, Int.reduceTDiv, Int.reduceTMod, q0, q1, q2, q3, z0, z1, z2, z3]
      simp only [go_sem, ↓reduceIte, Nat.reduceLT, Nat.reduceLeDiff, Nat.reduceAdd, Nat.reduceSub, Nat.reduceMul, Nat.reduceEqDiff, Nat.reduceBEq, Nat.reduceMod, Nat.reduceDiv, Int.reduceToNat, reduceCtorEq, Int.reduceLT, Int.reduceLE, Int.reduceGT, Int.reduceGE, Int.reduceAdd, Int.reduceSub, Int.reduceMul, Int.reduceNeg, Int.reduceEq, Int.reduceNe, Int.reduceBNe, Int.reduceBEq, Int.reduceDiv, ex_round, Int.cast_ofNat_Int, wi64, Int.reduceTDiv, Int.reduceTMod]
      refine ex_br (fun h => ?_) (fun h => ?_)
      · have h := of_decide_eq_true h
        have hbig := val_big hU hs (j := 15) (by decide) rfl (by omega)
        rw [if_neg hbig, decide_eq_false hbig]
        simp only [go_sem, ↓reduceIte, Nat.reduceLT, Nat.reduceLeDiff, Nat.reduceAdd, Nat.reduceSub, Nat.reduceMul, Nat.reduceEqDiff, Nat.reduceBEq, Nat.reduceMod, Nat.reduceDiv, Int.reduceToNat, reduceCtorEq, Int.reduceLT, Int.reduceLE, Int.reduceGT, Int.reduceGE, Int.reduceAdd, Int.reduceSub, Int.reduceMul, Int.reduceNeg, Int.reduceEq, Int.reduceNe, Int.reduceBNe, Int.reduceBEq, Int.reduceDiv]
        refine finTup ?_
        show resOf _ _ [.cell 4 45, .tmp 5] = _
        rw [hz4]
        simp only [go_sem, ↓reduceIte, Nat.reduceLT, Nat.reduceLeDiff, Nat.reduceAdd, Nat.reduceSub, Nat.reduceMul, Nat.reduceEqDiff, Nat.reduceBEq, Nat.reduceMod, Nat.reduceDiv, Int.reduceToNat, reduceCtorEq, Int.reduceLT, Int.reduceLE, Int.reduceGT, Int.reduceGE, Int.reduceAdd, Int.reduceSub, Int.reduceMul, Int.reduceNeg, Int.reduceEq, Int.reduceNe, Int.reduceBNe, Int.reduceBEq, Int.reduceDiv]
        try rfl
      have h7 := of_decide_eq_false h
      clear h
      simp only [go_sem, ↓reduceIte, Nat.reduceLT, Nat.reduceLeDiff, Nat.reduceAdd, Nat.reduceSub, Nat.reduceMul, Nat.reduceEqDiff, Nat.reduceBEq, Nat.reduceMod, Nat.reduceDiv, Int.reduceToNat, reduceCtorEq, Int.reduceLT, Int.reduceLE, Int.reduceGT, Int.reduceGE, Int.reduceAdd, Int.reduceSub, Int.reduceMul, Int.reduceNeg, Int.reduceEq, Int.reduceNe, Int.reduceBNe, Int.reduceBEq, Int.reduceDiv]
      refine ex_draw [15] [] (.quiet 0 (.quiet 1 (.quiet 2 (.quiet 3 (.quiet 4 (.quiet 5 (.quiet 6 (.quiet 7 (.quiet 8 (.quiet 9 (.quiet 10 (.quiet 11 (.quiet 12 (.quiet 13 (.quiet 14 (.unlock (.one 15 (.fin)))))))))))))))))) (by kernel_rfl) ?_
      simp only [cf, ex_seq, ex_block, ex_region, ex_ops_nil, ex_ops_cons, ex_ok, ex_need, ex_split_t, ex_split_f, ex_cond, ex_br_t, ex_br_f, ex_skip, ex_label, ex_scope, ex_exit, ex_ret, ex_keep, ex_inBlock_n, ex_inBlock_same, ex_inBlock_e, ex_inBlock_r, ex_code_e, ex_code_r, ex_rounds_e, ex_rounds_r, ex_ord_fin, ex_ord_quiet, ex_ord_one, ex_ord_unlock, ex_ord_lone, ex_ol, ex_oq_t, ex_oq_f, ex_nil, quietOp, loneOp, eltAddr, quietLoad, quietCallee, convQ, u8, moveR, moveTup, AV.isOwn, asU8, stepR, opR, ASt.rd, AV.seen, look, AV.const, AV.constC, AV.constG, AV.constCs, AV.constA, AV.nilOf, ASt.wr, Cfg.may, Cfg.round, roundQ, AV.dropR, AV.dropA, ASt.wrTo, R.chk, ASt.put, ASt.putOwn, ins, strike, consIf, keepL, keepV, AV.isBot, startSt, argsAt, allocR, ASt.newVar, AV.leansVar, AV.leans, AV.leansComp, assignR, ASt.take, ASt.takeO, ASt.at, cellAt, AV.compAt, ASt.drop, ASt.setCell, ASt.setCellO, ASt.dropComp, ASt.turn, binR, ASt.wrO, binInt, binAgg, isBoolK, isIntK, isSliceK, isFuncK, isInts, AV.eqInts, unVal, buildGo, partAt, partIn, placeOf, buildEnd, elemIn, elemsGo, elemsEnd, bsR, argOwnRef, argOwn, argImm, argsGo, callEnd, ASt.wrResTo, ASt.wrRes, pickR, boxR, loadOne, loadVar, wrImm, aggPart, AV.isAggV, loadElem, loadElt, loadR, storeOwn, AV.redir, redir, storeAl, storeRef, storeCells, storeVar, storePart, storeRow, storeElt, storeR, isU8, convBytes, convCont, convR, makeR, optI, cutSl, cutImm, cutStr, delV, ASt.freeVar, mkFnR, capR, capV, cutArr, cutR, addrR, structF, fieldR, idxSl, idxAddrR, idxR, extrOne, extrR, lenCont, lenR, appSrc, appRef, appTo, appR, maxR, fnOf, appKind, callFn, callLen, callApp, callMax, callR, grdO, grdT, TI.zeroVal, TK.isAgg, TK.known, Loc.plain, ASt.keep, ASt.imm, ASt.immRef, AV.isImm, AV.flat, AV.frz, AV.frz0, AV.mark, AV.elemsOf, AV.elemsO, ASt.cont, markFrom, putAt, resOf, resTup, resAll, resCons, resOne, resVar, resCells, resTmp, decide_true, decide_false, Bool.and_true, Bool.true_and, Bool.and_false, Bool.false_and, Bool.and_self, Bool.not_true, Bool.not_false, bq_t, bq_f, Bool.false_eq_true, Bool.true_eq_false, ↓reduceIte, Nat.reduceLT, Nat.reduceLeDiff, Nat.reduceAdd, Nat.reduceSub, Nat.reduceMul, Nat.reduceEqDiff, Nat.reduceBEq, Nat.lt_irrefl, Nat.zero_add, Nat.add_zero, Nat.mul_one, Nat.zero_mul, Nat.mul_zero, Nat.reduceMod, Nat.reduceDiv, Nat.zero_le, Nat.le_refl, Nat.beq, Int.reduceToNat, List.length_cons, List.length_nil, Option.isNone_none, Option.isNone_some, Option.bind_some, Option.bind_none, Option.map_some, Option.map_none, List.getElem?_cons_zero, List.getElem?_cons_succ, List.getElem?_nil, List.take_succ_cons, List.take_zero, List.take_nil, List.drop_succ_cons, List.drop_zero, List.drop_nil, List.map_cons, List.map_nil, List.cons_append, List.nil_append, List.append_nil, List.set_cons_zero, List.set_cons_succ, List.headD_cons, List.headD_nil, List.tail_cons, List.tail_nil, List.contains_cons, List.contains_nil, Bool.or_false, Bool.false_or, Bool.or_true, Bool.true_or, BEq.rfl, beq_self_eq_true, Nat.reduceBEq, List.replicate_zero, List.replicate_succ, List.isEmpty_nil, List.size_toArray, Array.isEmpty, List.reverse_nil, List.all_cons, List.all_nil, eq_self, true_and, and_true, false_and, and_false, and_self, not_true_eq_false, not_false_eq_true, reduceCtorEq, Loc.tmp.injEq, Loc.cell.injEq, Loc.comp.injEq, or_true, true_or, or_false, false_or, exists_const, Int.reduceLT, Int.reduceLE, Int.reduceGT, Int.reduceGE, Option.isSome_some, Option.isSome_none, Int.reduceAdd, Int.reduceSub, Int.reduceMul, Int.reduceNeg, Int.reduceEq, Int.reduceNe, Int.reduceBNe, Int.reduceBEq, ne_eq, Int.toNat_zero, Int.reduceDiv, forall_const, Nat.not_lt_zero, Nat.lt_add_one, ti1, ti2, ti3, ti4, ti5, ti6, ti7, ti8, ti9, ti10, ti11, ti12, ti13, ti14, ti21, ti22, ti23, ti24, ti25, ti26, ti27, ti28, ti29, ti31, ti33, ti34, ti35, ti36, ti38, ti39, ti40, ti41, ti42, ti43, ti44, ti45, ti46, ti47, ti48, ti49, ti50, ti51, ti53, ti55, ti56, ti57, ti58, ti59, ti60, ti61, ti62, ti64, ti65, ti66, ti67, ti68, ti70, ti72, ti74, ti75, ti76, ti77, ti78, ti79, ti80, ti82, ti83, ti84, ti85, ti86, ti87, ti89, ti90, ti91, ti92, ti93, ti94, ti95, ti96, ti97, ti98, ti99, ti100, ti101, ti102, ti103, ti104, ti105, ti106, ti107, ti108, ti109, ti110, ti111, ti112, ti113, ti114, ti115, ti116, ti118, ti120, ti121, ti122, ti123, ti124, ti125, ti126, ti128, ti129, ti130, ti131, ti137, ti138, ti139, ti140, ti141, ti143, ti144, Int.cast_ofNat_Int, wi64, Int.reduceTDiv, Int.reduceTMod, q0, q1, q2, q3, z0, z1, z2, z3]
      obtain ⟨c1, c2⟩ := val_small hU hs b0 b1 b2 b3 b4 b5 b6 b7 (by omega) (by omega) (by omega) (by omega) (by omega) (by omega) (by omega) (by omega)
      rw [if_pos c1, decide_eq_true c1, u_eq (n := p) (a := o0 + 4294967296 * o1) (b := o2 + 4294967296 * o3) (c := o4 + 4294967296 * o5) (d := o6 + 4294967296 * o7) (by omega) (by omega) (by omega) (by omega) c2]
      simp only [go_sem, ↓reduceIte, Nat.reduceLT, Nat.reduceLeDiff, Nat.reduceAdd, Nat.reduceSub, Nat.reduceMul, Nat.reduceEqDiff, Nat.reduceBEq, Nat.reduceMod, Nat.reduceDiv, Int.reduceToNat, reduceCtorEq, Int.reduceLT, Int.reduceLE, Int.reduceGT, Int.reduceGE, Int.reduceAdd, Int.reduceSub, Int.reduceMul, Int.reduceNeg, Int.reduceEq, Int.reduceNe, Int.reduceBNe, Int.reduceBEq, Int.reduceDiv, ex_round]
      refine finTup ?_
      show resOf _ _ [.cell 4 45, .tmp 5] = _
      simp only [go_sem, ↓reduceIte, Nat.reduceLT, Nat.reduceLeDiff, Nat.reduceAdd, Nat.reduceSub, Nat.reduceMul, Nat.reduceEqDiff, Nat.reduceBEq, Nat.reduceMod, Nat.reduceDiv, Int.reduceToNat, reduceCtorEq, Int.reduceLT, Int.reduceLE, Int.reduceGT, Int.reduceGE, Int.reduceAdd, Int.reduceSub, Int.reduceMul, Int.reduceNeg, Int.reduceEq, Int.reduceNe, Int.reduceBNe, Int.reduceBEq, Int.reduceDiv]
      try rfl
end Go.Proofs.Ytdenldjlijoeoaa.VA
end
section
/- The program's product, limb by limb. -/
namespace Go.Proofs.Ytdenldjlijoeoaa.VA
set_option maxRecDepth 10000
set_option linter.unusedSimpArgs false
set_option linter.unusedVariables false
set_option maxHeartbeats 8000000

theorem lim_dg (n i : Nat) : lim n i = ((dg 18446744073709551616 n i : Nat) : Int) := by
  unfold lim dg
  rw [show (18446744073709551616 : Nat) = 2 ^ 64 from rfl, ← Nat.pow_mul]
theorem u_dg (n : Nat) : u n = .agg [.int .u64 ((dg 18446744073709551616 n 0 : Nat) : Int), .int .u64 ((dg 18446744073709551616 n 1 : Nat) : Int), .int .u64 ((dg 18446744073709551616 n 2 : Nat) : Int), .int .u64 ((dg 18446744073709551616 n 3 : Nat) : Int)] := by
  unfold u
  rw [lim_dg, lim_dg, lim_dg, lim_dg]
theorem dg_get (B n i : Nat) (hi : i < 4) : [AV.int .u64 ((dg B n 0 : Nat) : Int), .int .u64 ((dg B n 1 : Nat) : Int), .int .u64 ((dg B n 2 : Nat) : Int), .int .u64 ((dg B n 3 : Nat) : Int)][i]? = some (AV.int .u64 ((dg B n i : Nat) : Int)) := by
  have : i = 0 ∨ i = 1 ∨ i = 2 ∨ i = 3 := by omega
  rcases this with rfl | rfl | rfl | rfl <;> rfl
theorem adS0 (x y : Nat) : adS x y 0 = (((x + y) % 18446744073709551616 : Nat) : Int) := by unfold adS; omega
theorem adC0 (x y : Nat) : adC x y 0 = (((x + y) / 18446744073709551616 : Nat) : Int) := by unfold adC; omega
theorem mul_full {x y : Nat} (hx : x < 18446744073709551616) (hy : y < 18446744073709551616) : x * y ≤ 340282366920938463426481119284349108225 := by
  have : x * y ≤ 18446744073709551615 * 18446744073709551615 := Nat.mul_le_mul (by omega) (by omega)
  omega
/-- One step: the sum and what is carried. -/
theorem limb_step {p o c : Nat} (hp : p ≤ 340282366920938463426481119284349108225) (ho : o < 18446744073709551616) (hc : c < 18446744073709551616) :
    p / 18446744073709551616 + (p % 18446744073709551616 + o) / 18446744073709551616 < 18446744073709551616 ∧
    p / 18446744073709551616 + (p % 18446744073709551616 + o) / 18446744073709551616 + ((p % 18446744073709551616 + o) % 18446744073709551616 + c) / 18446744073709551616 < 18446744073709551616 ∧
    ((p % 18446744073709551616 + o) % 18446744073709551616 + c) % 18446744073709551616 + 18446744073709551616 * (p / 18446744073709551616 + (p % 18446744073709551616 + o) / 18446744073709551616 + ((p % 18446744073709551616 + o) % 18446744073709551616 + c) / 18446744073709551616) = o + p + c := by
  refine ⟨by omega, by omega, by omega⟩

theorem eightL {α : Type} {s : List α} (h : s.length = 2 * 4) : ∃ a b c d e f g i, s = [a, b, c, d, e, f, g, i] := by
  match s, h with
  | [a, b, c, d, e, f, g, i], _ => exact ⟨a, b, c, d, e, f, g, i, rfl⟩
theorem or_nat {a b : Nat} (ha : a < 18446744073709551616) (hb : b < 18446744073709551616) : IntKind.u64.wrap ((BitVec.ofInt IntKind.u64.bits (a : Int) ||| BitVec.ofInt IntKind.u64.bits (b : Int)).toNat : Int) = ((a ||| b : Nat) : Int) ∧ (a ||| b) < 18446744073709551616 := by
  have e : IntKind.u64.bits = 64 := rfl
  have h : (a ||| b) < 2 ^ 64 := Nat.or_lt_two_pow ha hb
  rw [e, ofInt_nat, ofInt_nat, BitVec.toNat_or, BitVec.toNat_ofNat, BitVec.toNat_ofNat, Nat.mod_eq_of_lt (by omega), Nat.mod_eq_of_lt (by omega)]
  exact ⟨wu64 (by omega) (by omega), h⟩
theorem or_ne {a b c d : Nat} : ((((((a ||| b) ||| c) ||| d : Nat) : Int) != 0) = true → 0 < a ∨ 0 < b ∨ 0 < c ∨ 0 < d) ∧ ((((((a ||| b) ||| c) ||| d : Nat) : Int) != 0) = false → a = 0 ∧ b = 0 ∧ c = 0 ∧ d = 0) := by
  simp only [bne_iff_ne, ne_eq, bne_eq_false_iff_eq, Int.natCast_eq_zero, Nat.or_eq_zero_iff]
  constructor
  · intro h; omega
  · intro h; omega
theorem c_u256_Mul (n m : Nat) (hn : n < U) (hm : m < U) : Contract Try.prog 72 [u n, u m] (.tup [u (if n * m < U then n * m else 0), .int .i64 (if n * m < U then 0 else 8)]) := by
  have hU : U = 18446744073709551616 ^ 4 := by decide
  refine contract_of (C := cf 88 [2, 3, 4, 5, 6, 7, 8, 9, 10, 11, 12, 13, 14, 15, 16, 17, 18, 22, 23, 24, 25, 77] (fun _ => [])) (cf_ok _ _ _) (fn := Try.f72) Try.func72 (by kernel_rfl) rfl (by kernel_rfl) (by simp [cf]) (plain2 (u_plain n) (u_plain m)) (by decide) (cellsOk (by kernel_rfl)) ?_
  have hu1 := u_dg n
  have hu2 := u_dg m
  simp only [go_sem, ↓reduceIte, Nat.reduceLT, Nat.reduceLeDiff, Nat.reduceAdd, Nat.reduceSub, Nat.reduceMul, Nat.reduceEqDiff, Nat.reduceBEq, Nat.reduceMod, Nat.reduceDiv, Int.reduceToNat, reduceCtorEq, Int.reduceLT, Int.reduceLE, Int.reduceGT, Int.reduceGE, Int.reduceAdd, Int.reduceSub, Int.reduceMul, Int.reduceNeg, Int.reduceEq, Int.reduceNe, Int.reduceBNe, Int.reduceBEq, Int.reduceDiv, hu1, hu2]
  refine ex_iter [3, 4, 6, 16, 17] (fun q : Nat × List Nat => ⟨[(3, .var 3 0), (4, .var 4 0), (6, .var 6 0), (16, .agg [.int .u64 ((dg 18446744073709551616 n 0 : Nat) : Int), .int .u64 ((dg 18446744073709551616 n 1 : Nat) : Int), .int .u64 ((dg 18446744073709551616 n 2 : Nat) : Int), .int .u64 ((dg 18446744073709551616 n 3 : Nat) : Int)]), (17, .int .i64 q.1)],
      [(3, [.int .u64 ((dg 18446744073709551616 m 0 : Nat) : Int), .int .u64 ((dg 18446744073709551616 m 1 : Nat) : Int), .int .u64 ((dg 18446744073709551616 m 2 : Nat) : Int), .int .u64 ((dg 18446744073709551616 m 3 : Nat) : Int)]), (4, [.int .u64 0, .int .u64 0, .int .u64 0, .int .u64 0]), (6, q.2.map un)], []⟩)
    (fun q => q.1 ≤ 4 ∧ Part 18446744073709551616 4 n m q.1 q.2 (n % 18446744073709551616 ^ q.1 * m)) (fun q => 4 - q.1) (0, List.replicate 8 0) ?_ ?_ ?_
  · simp only [ASt.keep, consIf, keepL, keepV, AV.isBot, List.contains_cons, List.contains_nil, Nat.reduceBEq, Bool.or_false, Bool.false_or, Bool.or_true, Bool.true_or, beq_self_eq_true, Bool.false_eq_true, ↓reduceIte, if_false, if_true]
    rfl
  · exact ⟨Nat.zero_le _, ⟨rfl, fun x hx => by rw [List.eq_of_mem_replicate hx]; decide, by rw [val_zero]; simp [Nat.mod_one], fun j _ hj => by rw [List.getElem?_replicate]; exact if_pos hj⟩⟩
  · rintro r ⟨i, out⟩ hinv next
    obtain ⟨hi, hp⟩ : i ≤ 4 ∧ Part 18446744073709551616 4 n m i out (n % 18446744073709551616 ^ i * m) := hinv
    simp only [go_sem, ↓reduceIte, Nat.reduceLT, Nat.reduceLeDiff, Nat.reduceAdd, Nat.reduceSub, Nat.reduceMul, Nat.reduceEqDiff, Nat.reduceBEq, Nat.reduceMod, Nat.reduceDiv, Int.reduceToNat, reduceCtorEq, Int.reduceLT, Int.reduceLE, Int.reduceGT, Int.reduceGE, Int.reduceAdd, Int.reduceSub, Int.reduceMul, Int.reduceNeg, Int.reduceEq, Int.reduceNe, Int.reduceBNe, Int.reduceBEq, Int.reduceDiv]
    refine ex_br (fun h => ?_) (fun h => ?_)
    · have hlt : i < 4 := by simp at h; omega
      have gx := dg_get 18446744073709551616 n i hlt
      simp only [go_sem, ↓reduceIte, Nat.reduceLT, Nat.reduceLeDiff, Nat.reduceAdd, Nat.reduceSub, Nat.reduceMul, Nat.reduceEqDiff, Nat.reduceBEq, Nat.reduceMod, Nat.reduceDiv, Int.reduceToNat, reduceCtorEq, Int.reduceLT, Int.reduceLE, Int.reduceGT, Int.reduceGE, Int.reduceAdd, Int.reduceSub, Int.reduceMul, Int.reduceNeg, Int.reduceEq, Int.reduceNe, Int.reduceBNe, Int.reduceBEq, Int.reduceDiv, Int.toNat_natCast, gx]
      repeat with_reducible refine And.intro (by first | omega | (simp only [List.length_cons, List.length_append, List.length_nil, List.length_map, List.length_take, List.length_drop, List.length_set]; omega)) ?_
      refine ex_br (fun hx0 => ?_) (fun hx0 => ?_)
      · have hx0 : dg 18446744073709551616 n i = 0 := by simp at hx0; omega
        simp only [go_sem, ↓reduceIte, Nat.reduceLT, Nat.reduceLeDiff, Nat.reduceAdd, Nat.reduceSub, Nat.reduceMul, Nat.reduceEqDiff, Nat.reduceBEq, Nat.reduceMod, Nat.reduceDiv, Int.reduceToNat, reduceCtorEq, Int.reduceLT, Int.reduceLE, Int.reduceGT, Int.reduceGE, Int.reduceAdd, Int.reduceSub, Int.reduceMul, Int.reduceNeg, Int.reduceEq, Int.reduceNe, Int.reduceBNe, Int.reduceBEq, Int.reduceDiv]
        refine next (i + 1, out) _ ⟨by simp only; omega, ?_⟩ (by simp only; omega) ?_
        · refine ⟨hp.len, hp.lt, ?_, fun j hj hj2 => hp.zero j (by simp only at hj; omega) hj2⟩
          simp only
          rw [hp.sum, dg_step, hx0, Nat.zero_mul, Nat.add_zero]
        · simp only
          rw [← wi64_nat i (by omega)]
          simp only [ASt.keep, consIf, keepL, keepV, AV.isBot, List.contains_cons, List.contains_nil, Nat.reduceBEq, Bool.or_false, Bool.false_or, Bool.or_true, Bool.true_or, beq_self_eq_true, Bool.false_eq_true, ↓reduceIte, if_false, if_true]
      · simp only [go_sem, ↓reduceIte, Nat.reduceLT, Nat.reduceLeDiff, Nat.reduceAdd, Nat.reduceSub, Nat.reduceMul, Nat.reduceEqDiff, Nat.reduceBEq, Nat.reduceMod, Nat.reduceDiv, Int.reduceToNat, reduceCtorEq, Int.reduceLT, Int.reduceLE, Int.reduceGT, Int.reduceGE, Int.reduceAdd, Int.reduceSub, Int.reduceMul, Int.reduceNeg, Int.reduceEq, Int.reduceNe, Int.reduceBNe, Int.reduceBEq, Int.reduceDiv]
        refine ex_iter [3, 4, 6, 7, 8, 9, 16, 17, 23, 24] (fun q : Nat × Nat × List Nat => ⟨[(3, .var 3 0), (4, .var 4 0), (6, .var 6 0), (7, .int .i64 i), (8, .int .u64 ((dg 18446744073709551616 n i : Nat) : Int)), (9, .int .u64 q.2.1), (16, .agg [.int .u64 ((dg 18446744073709551616 n 0 : Nat) : Int), .int .u64 ((dg 18446744073709551616 n 1 : Nat) : Int), .int .u64 ((dg 18446744073709551616 n 2 : Nat) : Int), .int .u64 ((dg 18446744073709551616 n 3 : Nat) : Int)]), (17, .int .i64 i), (23, .agg [.int .u64 ((dg 18446744073709551616 m 0 : Nat) : Int), .int .u64 ((dg 18446744073709551616 m 1 : Nat) : Int), .int .u64 ((dg 18446744073709551616 m 2 : Nat) : Int), .int .u64 ((dg 18446744073709551616 m 3 : Nat) : Int)]), (24, .int .i64 q.1)],
            [(3, [.int .u64 ((dg 18446744073709551616 m 0 : Nat) : Int), .int .u64 ((dg 18446744073709551616 m 1 : Nat) : Int), .int .u64 ((dg 18446744073709551616 m 2 : Nat) : Int), .int .u64 ((dg 18446744073709551616 m 3 : Nat) : Int)]), (4, [.int .u64 0, .int .u64 0, .int .u64 0, .int .u64 0]), (6, q.2.2.map un)], []⟩)
          (fun q => q.1 ≤ 4 ∧ q.2.1 < 18446744073709551616 ∧ ∃ V, Part 18446744073709551616 4 n m i q.2.2 V ∧ V + q.2.1 * 18446744073709551616 ^ (i + q.1) = n % 18446744073709551616 ^ i * m + dg 18446744073709551616 n i * (m % 18446744073709551616 ^ q.1) * 18446744073709551616 ^ i) (fun q => 4 - q.1) (0, 0, out) ?_ ?_ ?_
        · simp only [ASt.keep, consIf, keepL, keepV, AV.isBot, List.contains_cons, List.contains_nil, Nat.reduceBEq, Bool.or_false, Bool.false_or, Bool.or_true, Bool.true_or, beq_self_eq_true, Bool.false_eq_true, ↓reduceIte, if_false, if_true]
          rfl
        · exact ⟨Nat.zero_le _, Nat.succ_pos _, _, hp, by simp [Nat.mod_one]⟩
        · rintro r ⟨k, c, out⟩ hinv next2
          obtain ⟨hk, hc, V, hp, hv⟩ : k ≤ 4 ∧ c < 18446744073709551616 ∧ ∃ V, Part 18446744073709551616 4 n m i out V ∧ V + c * 18446744073709551616 ^ (i + k) = n % 18446744073709551616 ^ i * m + dg 18446744073709551616 n i * (m % 18446744073709551616 ^ k) * 18446744073709551616 ^ i := hinv
          simp only [go_sem, ↓reduceIte, Nat.reduceLT, Nat.reduceLeDiff, Nat.reduceAdd, Nat.reduceSub, Nat.reduceMul, Nat.reduceEqDiff, Nat.reduceBEq, Nat.reduceMod, Nat.reduceDiv, Int.reduceToNat, reduceCtorEq, Int.reduceLT, Int.reduceLE, Int.reduceGT, Int.reduceGE, Int.reduceAdd, Int.reduceSub, Int.reduceMul, Int.reduceNeg, Int.reduceEq, Int.reduceNe, Int.reduceBNe, Int.reduceBEq, Int.reduceDiv]
          refine ex_br (fun h2 => ?_) (fun h2 => ?_)
          · have hlt2 : k < 4 := by simp at h2; omega
            have gy := dg_get 18446744073709551616 m k hlt2
            obtain ⟨o, eo⟩ : ∃ o, out[i + k]? = some o := ⟨_, List.getElem?_eq_getElem (by rw [hp.len]; omega)⟩
            have ho := hp.lt o (List.mem_of_getElem? eo)
            have ik : IntKind.i64.wrap ((i : Int) + k) = ((i + k : Nat) : Int) := by rw [wi64 (by omega) (by omega)]; rfl
            have hx := dg_lt 18446744073709551616 n i (by decide)
            have hy := dg_lt 18446744073709551616 m k (by decide)
            have hxy := mul_full hx hy
            obtain ⟨l1, l2, l3⟩ := limb_step hxy ho hc
            simp only [go_sem, ↓reduceIte, Nat.reduceLT, Nat.reduceLeDiff, Nat.reduceAdd, Nat.reduceSub, Nat.reduceMul, Nat.reduceEqDiff, Nat.reduceBEq, Nat.reduceMod, Nat.reduceDiv, Int.reduceToNat, reduceCtorEq, Int.reduceLT, Int.reduceLE, Int.reduceGT, Int.reduceGE, Int.reduceAdd, Int.reduceSub, Int.reduceMul, Int.reduceNeg, Int.reduceEq, Int.reduceNe, Int.reduceBNe, Int.reduceBEq, Int.reduceDiv, ik, Int.toNat_natCast, List.getElem?_map, eo, gy]
            repeat with_reducible refine And.intro (by first | omega | (simp only [List.length_cons, List.length_append, List.length_nil, List.length_map, List.length_take, List.length_drop, List.length_set]; omega)) ?_
            have hcm := c_Mul64 _ _ hx hy
            obtain ⟨p, hp'⟩ : ∃ p, p = dg 18446744073709551616 n i * dg 18446744073709551616 m k := ⟨_, rfl⟩
            rw [← hp'] at hxy l1 l2 l3 hcm
            have a1 := addw l1
            have a2 := addw l2
            have s1 := adS0 (p % 18446744073709551616) o
            have k1 := adC0 (p % 18446744073709551616) o
            have s2 := adS0 ((p % 18446744073709551616 + o) % 18446744073709551616) c
            have k2 := adC0 ((p % 18446744073709551616 + o) % 18446744073709551616) c
            have a4 := put_set un out (i + k) (((p % 18446744073709551616 + o) % 18446744073709551616 + c) % 18446744073709551616) (by rw [hp.len]; omega)
            have a5 : i + k + 1 ≤ (out.map un).length := by rw [List.length_map, hp.len]; omega
            refine ex_call hcm ?_
            simp only [go_sem, ↓reduceIte, Nat.reduceLT, Nat.reduceLeDiff, Nat.reduceAdd, Nat.reduceSub, Nat.reduceMul, Nat.reduceEqDiff, Nat.reduceBEq, Nat.reduceMod, Nat.reduceDiv, Int.reduceToNat, reduceCtorEq, Int.reduceLT, Int.reduceLE, Int.reduceGT, Int.reduceGE, Int.reduceAdd, Int.reduceSub, Int.reduceMul, Int.reduceNeg, Int.reduceEq, Int.reduceNe, Int.reduceBNe, Int.reduceBEq, Int.reduceDiv, ik, Int.toNat_natCast, List.getElem?_map, eo, un]
            repeat with_reducible refine And.intro (by first | omega | (simp only [List.length_cons, List.length_append, List.length_nil, List.length_map, List.length_take, List.length_drop, List.length_set]; omega)) ?_
            refine ex_extern (x_Add64 _ _ _ (by omega) (by omega) (by omega)) ?_
            simp only [go_sem, ↓reduceIte, Nat.reduceLT, Nat.reduceLeDiff, Nat.reduceAdd, Nat.reduceSub, Nat.reduceMul, Nat.reduceEqDiff, Nat.reduceBEq, Nat.reduceMod, Nat.reduceDiv, Int.reduceToNat, reduceCtorEq, Int.reduceLT, Int.reduceLE, Int.reduceGT, Int.reduceGE, Int.reduceAdd, Int.reduceSub, Int.reduceMul, Int.reduceNeg, Int.reduceEq, Int.reduceNe, Int.reduceBNe, Int.reduceBEq, Int.reduceDiv, s1, k1, a1, a2, ik]
            refine ex_extern (x_Add64 _ _ _ (by omega) (by omega) (by omega)) ?_
            simp only [go_sem, ↓reduceIte, Nat.reduceLT, Nat.reduceLeDiff, Nat.reduceAdd, Nat.reduceSub, Nat.reduceMul, Nat.reduceEqDiff, Nat.reduceBEq, Nat.reduceMod, Nat.reduceDiv, Int.reduceToNat, reduceCtorEq, Int.reduceLT, Int.reduceLE, Int.reduceGT, Int.reduceGE, Int.reduceAdd, Int.reduceSub, Int.reduceMul, Int.reduceNeg, Int.reduceEq, Int.reduceNe, Int.reduceBNe, Int.reduceBEq, Int.reduceDiv, s2, k2, a1, a2, ik, Int.toNat_natCast]
            repeat with_reducible refine And.intro (by first | omega | (simp only [List.length_cons, List.length_append, List.length_nil, List.length_map, List.length_take, List.length_drop, List.length_set]; omega)) ?_
            simp only [go_sem, ↓reduceIte, Nat.reduceLT, Nat.reduceLeDiff, Nat.reduceAdd, Nat.reduceSub, Nat.reduceMul, Nat.reduceEqDiff, Nat.reduceBEq, Nat.reduceMod, Nat.reduceDiv, Int.reduceToNat, reduceCtorEq, Int.reduceLT, Int.reduceLE, Int.reduceGT, Int.reduceGE, Int.reduceAdd, Int.reduceSub, Int.reduceMul, Int.reduceNeg, Int.reduceEq, Int.reduceNe, Int.reduceBNe, Int.reduceBEq, Int.reduceDiv, decide_eq_true_eq, a5, a2]
            obtain ⟨p1, p2⟩ := hp.set (j := i + k) (v := ((p % 18446744073709551616 + o) % 18446744073709551616 + c) % 18446744073709551616) (by omega) (Nat.mod_lt _ (by decide)) eo
            refine next2 (k + 1, _, out.set (i + k) (((p % 18446744073709551616 + o) % 18446744073709551616 + c) % 18446744073709551616)) _ ⟨by simp only; omega, l2, _, p1, step_val (by decide) hv ?_⟩ (by simp only; omega) ?_
            · refine mac (s := ((p % 18446744073709551616 + o) % 18446744073709551616 + c) % 18446744073709551616) (out := o) ?_ p2
              rw [← hp']
              exact l3
            · simp only
              rw [← wi64_nat k (by omega), ← a4]
              simp only [ASt.keep, consIf, keepL, keepV, AV.isBot, List.contains_cons, List.contains_nil, Nat.reduceBEq, Bool.or_false, Bool.false_or, Bool.or_true, Bool.true_or, beq_self_eq_true, Bool.false_eq_true, ↓reduceIte, if_false, if_true]
              rfl
          · have hge : k = 4 := by simp at h2; omega
            subst hge
            have ik : IntKind.i64.wrap ((i : Int) + 4) = ((i + 4 : Nat) : Int) := by rw [wi64 (by omega) (by omega)]; rfl
            have a4 := put_set un out (i + 4) c (by rw [hp.len]; omega)
            have a5 : i + 4 + 1 ≤ (out.map un).length := by rw [List.length_map, hp.len]; omega
            obtain ⟨p1, p2⟩ := hp.set9 (c := c) (by omega) hc
            have p3 := row_val (by rw [← hU]; exact hm) hv p2
            simp only [go_sem, ↓reduceIte, Nat.reduceLT, Nat.reduceLeDiff, Nat.reduceAdd, Nat.reduceSub, Nat.reduceMul, Nat.reduceEqDiff, Nat.reduceBEq, Nat.reduceMod, Nat.reduceDiv, Int.reduceToNat, reduceCtorEq, Int.reduceLT, Int.reduceLE, Int.reduceGT, Int.reduceGE, Int.reduceAdd, Int.reduceSub, Int.reduceMul, Int.reduceNeg, Int.reduceEq, Int.reduceNe, Int.reduceBNe, Int.reduceBEq, Int.reduceDiv, ik, Int.toNat_natCast]
            repeat with_reducible refine And.intro (by first | omega | (simp only [List.length_cons, List.length_append, List.length_nil, List.length_map, List.length_take, List.length_drop, List.length_set]; omega)) ?_
            simp only [go_sem, ↓reduceIte, Nat.reduceLT, Nat.reduceLeDiff, Nat.reduceAdd, Nat.reduceSub, Nat.reduceMul, Nat.reduceEqDiff, Nat.reduceBEq, Nat.reduceMod, Nat.reduceDiv, Int.reduceToNat, reduceCtorEq, Int.reduceLT, Int.reduceLE, Int.reduceGT, Int.reduceGE, Int.reduceAdd, Int.reduceSub, Int.reduceMul, Int.reduceNeg, Int.reduceEq, Int.reduceNe, Int.reduceBNe, Int.reduceBEq, Int.reduceDiv, decide_eq_true_eq, a5]
            refine next (i + 1, out.set (i + 4) c) _ ⟨by simp only; omega, ?_⟩ (by simp only; omega) ?_
            · rw [← p3]; exact p1
            · simp only
              rw [← wi64_nat i (by omega), ← a4]
              simp only [ASt.keep, consIf, keepL, keepV, AV.isBot, List.contains_cons, List.contains_nil, Nat.reduceBEq, Bool.or_false, Bool.false_or, Bool.or_true, Bool.true_or, beq_self_eq_true, Bool.false_eq_true, ↓reduceIte, if_false, if_true]
              rfl
    · have hge : i = 4 := by simp at h; omega
      subst hge
      clear next
      have hs := hp.sum
      have hl := hp.len
      have hb := hp.lt
      rw [Nat.mod_eq_of_lt (by rw [← hU]; exact hn)] at hs
      obtain ⟨o0, o1, o2, o3, o4, o5, o6, o7, rfl⟩ := eightL hl
      simp only [List.mem_cons, List.not_mem_nil, or_false, forall_eq_or_imp, forall_eq] at hb
      obtain ⟨b0, b1, b2, b3, b4, b5, b6, b7⟩ := hb
      clear hp
      have hz4 : u 0 = _ := u_eq (n := 0) (a := 0) (b := 0) (c := 0) (d := 0) (by decide) (by decide) (by decide) (by decide) rfl
      generalize n * m = p at hs
      have q1 := or_nat b4 b5
      have q2 := or_nat q1.2 b6
      have q3 := or_nat q2.2 b7
      have hor := or_ne (a := o4) (b := o5) (c := o6) (d := o7)
      simp only [cf, ex_seq, ex_block, ex_region, ex_ops_nil, ex_ops_cons, ex_ok, ex_need, ex_split_t, ex_split_f, ex_cond, ex_br_t, ex_br_f, ex_skip, ex_label, ex_scope, ex_exit, ex_ret, ex_keep, ex_inBlock_n, ex_inBlock_same, ex_inBlock_e, ex_inBlock_r, ex_code_e, ex_code_r, ex_rounds_e, ex_rounds_r, ex_ord_fin, ex_ord_quiet, ex_ord_one, ex_ord_unlock, ex_ord_lone, ex_ol, ex_oq_t, ex_oq_f, ex_nil, quietOp, loneOp, eltAddr, quietLoad, quietCallee, convQ, u8, moveR, moveTup, AV.isOwn, asU8, stepR, opR, ASt.rd, AV.seen, look, AV.const, AV.constC, AV.constG, AV.constCs, AV.constA, AV.nilOf, ASt.wr, Cfg.may, Cfg.round, roundQ, AV.dropR, AV.dropA, ASt.wrTo, R.chk, ASt.put, ASt.putOwn, ins, strike, consIf, keepL, keepV, AV.isBot, startSt, argsAt, allocR, ASt.newVar, AV.leansVar, AV.leans, AV.leansComp, assignR, ASt.take, ASt.takeO, ASt.at, cellAt, AV.compAt, ASt.drop, ASt.setCell, ASt.setCellO, ASt.dropComp, ASt.turn, binR, ASt.wrO, binInt, binAgg, isBoolK, isIntK, isSliceK, isFuncK, isInts, AV.eqInts, unVal, buildGo, partAt, partIn, placeOf, buildEnd, elemIn, elemsGo, elemsEnd, bsR, argOwnRef, argOwn, argImm, argsGo, callEnd, ASt.wrResTo, ASt.wrRes, pickR, boxR, loadOne, loadVar, wrImm, aggPart, AV.isAggV, loadElem, loadElt, loadR, storeOwn, AV.redir, redir, storeAl, storeRef, storeCells, storeVar, storePart, storeRow, storeElt, storeR, isU8, convBytes, convCont, convR, makeR, optI, cutSl, cutImm, cutStr, delV, ASt.freeVar, mkFnR, capR, capV, cutArr, cutR, addrR, structF, fieldR, idxSl, idxAddrR, idxR, extrOne, extrR, lenCont, lenR, appSrc, appRef, appTo, appR, maxR, fnOf, appKind, callFn, callLen, callApp, callMax, callR, grdO, grdT, TI.zeroVal, TK.isAgg, TK.known, Loc.plain, ASt.keep, ASt.imm, ASt.immRef, AV.isImm, AV.flat, AV.frz, AV.frz0, AV.mark, AV.elemsOf, AV.elemsO, ASt.cont, markFrom, putAt, resOf, resTup, resAll, resCons, resOne, resVar, resCells, resTmp, decide_true, decide_false, Bool.and_true, Bool.true_and, Bool.and_false, Bool.false_and, Bool.and_self, Bool.not_true, Bool.not_false, bq_t, bq_f, Bool.false_eq_true, Bool.true_eq_false, ↓reduceIte, Nat.reduceLT, Nat.reduceLeDiff, Nat.reduceAdd, Nat.reduceSub, Nat.reduceMul, Nat.reduceEqDiff, Nat.reduceBEq, Nat.lt_irrefl, Nat.zero_add, Nat.add_zero, Nat.mul_one, Nat.zero_mul, Nat.mul_zero, Nat.reduceMod, Nat.reduceDiv, Nat.zero_le, Nat.le_refl, Nat.beq, Int.reduceToNat, List.length_cons, List.length_nil, Option.isNone_none, Option.isNone_some, Option.bind_some, Option.bind_none, Option.map_some, Option.map_none, List.getElem?_cons_zero, List.getElem?_cons_succ, List.getElem?_nil, List.take_succ_cons, List.take_zero, List.take_nil, List.drop_succ_cons, List.drop_zero, List.drop_nil, List.map_cons, List.map_nil, List.cons_append, List.nil_append, List.append_nil, List.set_cons_zero, List.set_cons_succ, List.headD_cons, List.headD_nil, List.tail_cons, List.tail_nil, List.contains_cons, List.contains_nil, Bool.or_false, Bool.false_or, Bool.or_true, Bool.true_or, BEq.rfl, beq_self_eq_true, Nat.reduceBEq, List.replicate_zero, List.replicate_succ, List.isEmpty_nil, List.size_toArray, Array.isEmpty, List.reverse_nil, List.all_cons, List.all_nil, eq_self, true_and, and_true, false_and, and_false, and_self, not_true_eq_false, not_false_eq_true, reduceCtorEq, Loc.tmp.injEq, Loc.cell.injEq, Loc.comp.injEq, or_true, true_or, or_false, false_or, exists_const, Int.reduceLT, Int.reduceLE, Int.reduceGT, Int.reduceGE, Option.isSome_some, Option.isSome_none, Int.reduceAdd, Int.reduceSub, Int.reduceMul, Int.reduceNeg, Int.reduceEq, Int.reduceNe, Int.reduceBNe, Int.reduceBEq, ne_eq, Int.toNat_zero, Int.reduceDiv, forall_const, Nat.not_lt_zero, Nat.lt_add_one, ti1, ti2, ti3, ti4, ti5, ti6, ti7, ti8, ti9, ti10, ti11, ti12, ti13, ti14, ti21, ti22, ti23, ti24, ti25, ti26, ti27, ti28, ti29, ti31, ti33, ti34, ti35, ti36, ti38, ti39, ti40, ti41, ti42, ti43, ti44, ti45, ti46, ti47, ti48, ti49, ti50, ti51, ti53, ti55, ti56, ti57, ti58, ti59, ti60, ti61, ti62, ti64, ti65, ti66, ti67, ti68, ti70, ti72, ti74, ti75, ti76, ti77, ti78, ti79, ti80, ti82, ti83, ti84, ti85, ti86, ti87, ti89, ti90, ti91, ti92, ti93, ti94, ti95, ti96, ti97, ti98, ti99, ti100, ti101, ti102, ti103, ti104, ti105, ti106, ti107, ti108, ti109, ti110, ti111, ti112, ti113, ti114, ti115, ti116, ti118, ti120, ti121, ti122, ti123, ti124, ti125, ti126, ti128, ti129, ti130, ti131, ti137, ti138, ti139, ti140, ti141, ti143, ti144, un]
      repeat with_reducible refine And.intro (by first | omega | (simp only [List.length_cons, List.length_append, List.length_nil, List.length_map, List.length_take, List.length_drop, List.length_set]; omega)) ?_
      simp only [cf, ex_seq, ex_block, ex_region, ex_ops_nil, ex_ops_cons, ex_ok, ex_need, ex_split_t, ex_split_f, ex_cond, ex_br_t, ex_br_f, ex_skip, ex_label, ex_scope, ex_exit, ex_ret, ex_keep, ex_inBlock_n, ex_inBlock_same, ex_inBlock_e, ex_inBlock_r, ex_code_e, ex_code_r, ex_rounds_e, ex_rounds_r, ex_ord_fin, ex_ord_quiet, ex_ord_one, ex_ord_unlock, ex_ord_lone, ex_ol, ex_oq_t, ex_oq_f, ex_nil, quietOp, loneOp, eltAddr, quietLoad, quietCallee, convQ, u8, moveR, moveTup, AV.isOwn, asU8, stepR, opR, ASt.rd, AV.seen, look, AV.const, AV.constC, AV.constG, AV.constCs, AV.constA, AV.nilOf, ASt.wr, Cfg.may, Cfg.round, roundQ, AV.dropR, AV.dropA, ASt.wrTo, R.chk, ASt.put, ASt.putOwn, ins, strike, consIf, keepL, keepV, AV.isBot, startSt, argsAt, allocR, ASt.newVar, AV.leansVar, AV.leans, AV.leansComp, assignR, ASt.take, ASt.takeO, ASt.at, cellAt, AV.compAt, ASt.drop, ASt.setCell, ASt.setCellO, ASt.dropComp, ASt.turn, binR, ASt.wrO, binInt, binAgg, isBoolK, isIntK, isSliceK, isFuncK, isInts, AV.eqInts, unVal, buildGo, partAt, partIn, placeOf, buildEnd, elemIn, elemsGo, elemsEnd, bsR, argOwnRef, argOwn, argImm, argsGo, callEnd, ASt.wrResTo, ASt.wrRes, pickR, boxR, loadOne, loadVar, wrImm, aggPart, AV.isAggV, loadElem, loadElt, loadR, storeOwn, AV.redir, redir, storeAl, storeRef, storeCells, storeVar, storePart, storeRow, storeElt, storeR, isU8, convBytes, convCont, convR, makeR, optI, cutSl, cutImm, cutStr, delV, ASt.freeVar, mkFnR, capR, capV, cutArr, cutR, addrR, structF, fieldR, idxSl, idxAddrR, idxR, extrOne, extrR, lenCont, lenR, appSrc, appRef, appTo, appR, maxR, fnOf, appKind, callFn, callLen, callApp, callMax, callR, grdO, grdT, TI.zeroVal, TK.isAgg, TK.known, Loc.plain, ASt.keep, ASt.imm, ASt.immRef, AV.isImm, AV.flat, AV.frz, AV.frz0, AV.mark, AV.elemsOf, AV.elemsO, ASt.cont, markFrom, putAt, resOf, resTup, resAll, resCons, resOne, resVar, resCells, resTmp, decide_true, decide_false, Bool.and_true, Bool.true_and, Bool.and_false, Bool.false_and, Bool.and_self, Bool.not_true, Bool.not_false, bq_t, bq_f, Bool.false_eq_true, Bool.true_eq_false, ↓reduceIte, Nat.reduceLT, Nat.reduceLeDiff, Nat.reduceAdd, Nat.reduceSub, Nat.reduceMul, Nat.reduceEqDiff, Nat.reduceBEq, Nat.lt_irrefl, Nat.zero_add, Nat.add_zero, Nat.mul_one, Nat.zero_mul, Nat.mul_zero, Nat.reduceMod, Nat.reduceDiv, Nat.zero_le, Nat.le_refl, Nat.beq, Int.reduceToNat, List.length_cons, List.length_nil, Option.isNone_none, Option.isNone_some, Option.bind_some, Option.bind_none, Option.map_some, Option.map_none, List.getElem?_cons_zero, List.getElem?_cons_succ, List.getElem?_nil, List.take_succ_cons, List.take_zero, List.take_nil, List.drop_succ_cons, List.drop_zero, List.drop_nil, List.map_cons, List.map_nil, List.cons_append, List.nil_append, List.append_nil, List.set_cons_zero, List.set_cons_succ, List.headD_cons, List.headD_nil, List.tail_cons, List.tail_nil, List.contains_cons, List.contains_nil, Bool.or_false, Bool.false_or, Bool.or_true, Bool.true_or, BEq.rfl, beq_self_eq_true, Nat.reduceBEq, List.replicate_zero, List.replicate_succ, List.isEmpty_nil, List.size_toArray, Array.isEmpty, List.reverse_nil, List.all_cons, List.all_nil, eq_self, true_and, and_true, false_and, and_false, and_self, not_true_eq_false, not_false_eq_true, reduceCtorEq, Loc.tmp.injEq, Loc.cell.injEq, Loc.comp.injEq, or_true, true_or, or_false, false_or, exists_const, Int.reduceLT, Int.reduceLE, Int.reduceGT, Int.reduceGE, Option.isSome_some, Option.isSome_none, Int.reduceAdd, Int.reduceSub, Int.reduceMul, Int.reduceNeg, Int.reduceEq, Int.reduceNe, Int.reduceBNe, Int.reduceBEq, ne_eq, Int.toNat_zero, Int.reduceDiv, forall_const, Nat.not_lt_zero, Nat.lt_add_one, ti1, ti2, ti3, ti4, ti5, ti6, ti7, ti8, ti9, ti10, ti11, ti12, ti13, ti14, ti21, ti22, ti23, ti24, ti25, ti26, ti27, ti28, ti29, ti31, ti33, ti34, ti35, ti36, ti38, ti39, ti40, ti41, ti42, ti43, ti44, ti45, ti46, ti47, ti48, ti49, ti50, ti51, ti53, ti55, ti56, ti57, ti58, ti59, ti60, ti61, ti62, ti64, ti65, ti66, ti67, ti68, ti70, ti72, ti74, ti75, ti76, ti77, ti78, ti79, ti80, ti82, ti83, ti84, ti85, ti86, ti87, ti89, ti90, ti91, ti92, ti93, ti94, ti95, ti96, ti97, ti98, ti99, ti100, ti101, ti102, ti103, ti104, ti105, ti106, ti107, ti108, ti109, ti110, ti111, ti112, ti113, ti114, ti115, ti116, ti118, ti120, ti121, ti122, ti123, ti124, ti125, ti126, ti128, ti129, ti130, ti131, ti137, ti138, ti139, ti140, ti141, ti143, ti144, q1.1, q2.1, q3.1]
      refine ex_br (fun h => ?_) (fun h => ?_)
      · have h := hor.1 h
        have hbig : ¬ p < U := by
          unfold U
          simp only [val, Nat.mul_zero, Nat.add_zero] at hs
          omega
        rw [if_neg hbig, if_neg hbig, hz4]
        simp only [go_sem, ↓reduceIte, Nat.reduceLT, Nat.reduceLeDiff, Nat.reduceAdd, Nat.reduceSub, Nat.reduceMul, Nat.reduceEqDiff, Nat.reduceBEq, Nat.reduceMod, Nat.reduceDiv, Int.reduceToNat, reduceCtorEq, Int.reduceLT, Int.reduceLE, Int.reduceGT, Int.reduceGE, Int.reduceAdd, Int.reduceSub, Int.reduceMul, Int.reduceNeg, Int.reduceEq, Int.reduceNe, Int.reduceBNe, Int.reduceBEq, Int.reduceDiv]
        refine finTup ?_
        show resOf _ _ [.cell 4 45, .tmp 5] = _
        simp only [go_sem, ↓reduceIte, Nat.reduceLT, Nat.reduceLeDiff, Nat.reduceAdd, Nat.reduceSub, Nat.reduceMul, Nat.reduceEqDiff, Nat.reduceBEq, Nat.reduceMod, Nat.reduceDiv, Int.reduceToNat, reduceCtorEq, Int.reduceLT, Int.reduceLE, Int.reduceGT, Int.reduceGE, Int.reduceAdd, Int.reduceSub, Int.reduceMul, Int.reduceNeg, Int.reduceEq, Int.reduceNe, Int.reduceBNe, Int.reduceBEq, Int.reduceDiv]
        try rfl
      · have h := hor.2 h
        have hsm : p < U ∧ p = o0 + 18446744073709551616 * o1 + 340282366920938463463374607431768211456 * o2 + 6277101735386680763835789423207666416102355444464034512896 * o3 := by
          simp only [val, Nat.mul_zero, Nat.add_zero] at hs
          unfold U
          constructor <;> omega
        rw [if_pos hsm.1, if_pos hsm.1, u_eq b0 b1 b2 b3 hsm.2]
        simp only [go_sem, ↓reduceIte, Nat.reduceLT, Nat.reduceLeDiff, Nat.reduceAdd, Nat.reduceSub, Nat.reduceMul, Nat.reduceEqDiff, Nat.reduceBEq, Nat.reduceMod, Nat.reduceDiv, Int.reduceToNat, reduceCtorEq, Int.reduceLT, Int.reduceLE, Int.reduceGT, Int.reduceGE, Int.reduceAdd, Int.reduceSub, Int.reduceMul, Int.reduceNeg, Int.reduceEq, Int.reduceNe, Int.reduceBNe, Int.reduceBEq, Int.reduceDiv]
        repeat with_reducible refine And.intro (by first | omega | (simp only [List.length_cons, List.length_append, List.length_nil, List.length_map, List.length_take, List.length_drop, List.length_set]; omega)) ?_
        refine finTup ?_
        show resOf _ _ [.cell 4 45, .tmp 5] = _
        simp only [go_sem, ↓reduceIte, Nat.reduceLT, Nat.reduceLeDiff, Nat.reduceAdd, Nat.reduceSub, Nat.reduceMul, Nat.reduceEqDiff, Nat.reduceBEq, Nat.reduceMod, Nat.reduceDiv, Int.reduceToNat, reduceCtorEq, Int.reduceLT, Int.reduceLE, Int.reduceGT, Int.reduceGE, Int.reduceAdd, Int.reduceSub, Int.reduceMul, Int.reduceNeg, Int.reduceEq, Int.reduceNe, Int.reduceBNe, Int.reduceBEq, Int.reduceDiv]
        try rfl
end Go.Proofs.Ytdenldjlijoeoaa.VA
end
