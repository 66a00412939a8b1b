/- Items out of bytes: the page's own. Items out of bytes: the page's answer at the top. Transactions as items: plain laws. Items' bytes: how long, whether they may be. Functions that hand values to a loop: laws for their walks. Each: a function that hands an item's items to a loop. Items' bytes: the page's own; what is laid. Items' bytes: what is laid. Transactions as bytes. Transactions as bytes: the page's own; IDs. Numbers by the page: bits, out of bytes. Transactions out of bytes. Transactions out of bytes: the page's way, plain laws. Transactions out of bytes: Take, and the page's own. The page's difference. What a transaction costs, what it pays; the difference of numbers. Transactions among the data that a law is asked with. -/
import Derived.Test.YtdenldjlijoeoaaT1
import Derived.Test.YtdenldjlijoeoaaT2
import Derived.Test.YtdenldjlijoeoaaT3
import Derived.Test.YtdenldjlijoeoaaT4
import Derived.Test.YtdenldjlijoeoaaT5
import Derived.TacticsIn
import Derived.LoopNIn
section
/- Items out of bytes: the page's own. -/
namespace Go.Proofs.Ytdenldjlijoeoaa.VA
set_option maxRecDepth 10000
set_option linter.unusedSimpArgs false
set_option linter.unusedVariables false
set_option maxHeartbeats 16000000

def bodyR (d : Nat) (s : List UInt8) (l : Bool) (f n : Nat) : Except Nat (ItemD × Nat) :=
  if f + n > 65536 then .error 1
  else if s.length < f + n then .error 7
  else if l = false then (if 0 < f ∧ aloneB ((s.drop f).take n) = true then .error 1 else .ok (.mk false ((s.drop f).take n) [], f + n))
  else if 16 ≤ d then .error 1
  else match itemsP (d + 1) ((s.drop f).take n) with
    | some xs => .ok (.mk true [] xs, f + n)
    | none => .error 1
theorem parse_body {d : Nat} {s : List UInt8} {l : Bool} {f n : Nat} (hh : hdOf s = .ok (l, f, n)) : parse d s = bodyR d s l f n := by
  obtain ⟨b1, b2, b3⟩ := hd_bounds hh
  rw [parse, hh]
  unfold bodyR
  simp only
  split
  · rfl
  · split
    · rfl
    · split
      · rfl
      · split
        · rfl
        · rename_i h1 h2 h3 h4
          have hl : l = true := by cases l <;> simp_all
          have := b3 hl
          rw [dif_pos (by rw [List.length_take, List.length_drop]; omega)]
          all_goals (cases itemsP (d + 1) ((s.drop f).take n) <;> rfl)
theorem parse_errD {d : Nat} {s : List UInt8} {e : Nat} (h : parse d s = .error e) : e = 7 ∨ e = 1 := by
  cases hh : hdOf s with
  | error e2 => rw [parse, hh] at h; cases h; exact hd_err hh
  | ok r2 =>
    obtain ⟨l2, f2, n2⟩ := r2
    rw [parse_body hh] at h
    unfold bodyR at h
    repeat' (split at h)
    all_goals first | (cases h; omega) | (cases h; done)
theorem numOf_take_le (t : List UInt8) {i k : Nat} (h : i ≤ k) : numOf (t.take i) ≤ numOf (t.take k) := by
  have e : t.take k = t.take i ++ (t.drop i).take (k - i) := by
    rw [← List.take_add]; congr 1; omega
  rw [e, numOf_append]
  have : 0 < 256 ^ ((t.drop i).take (k - i)).length := Nat.pow_pos (by decide)
  have := Nat.le_mul_of_pos_right (numOf (t.take i)) this
  omega
theorem c_take (N : Nat) : ∀ (s : List UInt8) (d : Nat), s.length ≤ N → s.length ≤ 16777216 → d ≤ 16 → Contract Try.prog 23 [.str s, .int .i64 d] (resP (parse d s)) := by
  induction N using Nat.strongRecOn with
  | _ N ih =>
    intro s d hN hs hd
    have wd : IntKind.i64.wrap ((d : Int) + 1) = ((d + 1 : Nat) : Int) := wi64_nat d (by omega)
    cases s with
    | nil =>
      have hp : parse d [] = .error 7 := by rw [parse]; rfl
      rw [hp]
      refine contract_of (C := cf 139 [0, 1, 4, 5, 6, 7, 8, 9, 10, 11, 12, 13, 14, 15, 16, 17, 18, 22, 28, 34, 40, 47, 51, 55, 67, 70, 77, 84, 93, 100, 109, 114, 124] (fun _ => [])) (cf_ok _ _ _) (fn := Try.f23) Try.func23 (by kernel_rfl) rfl (by kernel_rfl) (by simp [cf]) (plain2 (.str _) (.int _ _)) (by decide) (cellsOk (by kernel_rfl)) ?_
      simp only [go_sem, seval, Int.cast_ofNat_Int]
      refine finTupD (vs' := [.agg [.bool false, .str [], .ext nilP], .int .i64 (0 : Int), .int .i64 (7 : Int)]) ?_ (fins3 (dull_none _ _) _)
      show resOf _ _ [.cell 4 26, .tmp 5, .tmp 6] = _
      simp only [go_sem, seval]
    | cons b t =>
      rw [List.length_cons] at hN hs
      have hb : b.toNat < 256 := b.toNat_lt
      have wb : IntKind.i64.wrap (b.toNat : Int) = (b.toNat : Int) := wi64n _ (by omega)
      have hpos : (0 : Int) < ((t.length + 1 : Nat) : Int) := by omega
      have e0 : (((t.length + 1 : Nat) : Int) == 0) = false := by simpa using (by omega : ¬ ((t.length + 1 : Nat) : Int) = 0)
      rcases Decidable.em (b.toNat < 128) with h1 | h1
      · have hh : hdOf (b :: t) = .ok (false, 0, 1) := by rw [hd_cons, if_pos h1]
        have hp : parse d (b :: t) = .ok (.mk false [b] [], 1) := by
          rw [parse_body hh]
          unfold bodyR
          rw [if_neg (by omega), if_neg (by simp), if_pos rfl, if_neg (by omega)]
          rfl
        rw [hp]
        have e1 : decide ((b.toNat : Int) < 128) = true := decide_eq_true (by omega)
        have hle : (1 : Int) ≤ ((t.length + 1 : Nat) : Int) := by omega
        refine contract_of (C := cf 139 [0, 1, 4, 5, 6, 7, 8, 9, 10, 11, 12, 13, 14, 15, 16, 17, 18, 22, 28, 34, 40, 47, 51, 55, 67, 70, 77, 84, 93, 100, 109, 114, 124] (fun _ => [])) (cf_ok _ _ _) (fn := Try.f23) Try.func23 (by kernel_rfl) rfl (by kernel_rfl) (by simp [cf]) (plain2 (.str _) (.int _ _)) (by decide) (cellsOk (by kernel_rfl)) ?_
        simp only [go_sem, seval, e0, e1, wb, hpos, hle, Int.cast_ofNat_Int]
        refine finTupD (vs' := [.agg [.bool false, .str [b], .ext nilP], .int .i64 (1 : Int), .int .i64 (0 : Int)]) ?_ (fins3 (dull_none _ _) _)
        show resOf _ _ [.cell 4 26, .tmp 5, .tmp 6] = _
        simp only [go_sem, seval]
      · have e1 : decide ((b.toNat : Int) < 128) = false := decide_eq_false (by omega)
        have hcons : hdOf (b :: t) = hdRest (decide (192 ≤ b.toNat)) (hdLen b) t := by rw [hd_cons, if_neg h1]
        obtain ⟨l, hl⟩ : ∃ l, decide (192 ≤ b.toNat) = l := ⟨_, rfl⟩
        obtain ⟨m, hm⟩ : ∃ m, hdLen b = m := ⟨_, rfl⟩
        rw [hl, hm] at hcons
        have hm64 : m < 64 := by rw [← hm]; unfold hdLen; split <;> omega
        have e2 : decide ((b.toNat : Int) ≥ 192) = l := by rw [← hl]; exact decide_congr (by omega)
        have w64 : IntKind.i64.wrap ((b.toNat : Int) - 64) = (b.toNat : Int) - 64 := wi64 (by omega) (by omega)
        have wl : l = true → IntKind.i64.wrap ((b.toNat : Int) - 64 - 128) = (m : Int) := fun e => by
          rw [wi64 (by omega) (by omega)]
          rw [e] at hl
          have : 192 ≤ b.toNat := of_decide_eq_true hl
          rw [← hm]; unfold hdLen; rw [if_pos this]; omega
        have wt : l = false → IntKind.i64.wrap ((b.toNat : Int) - 128) = (m : Int) := fun e => by
          rw [wi64 (by omega) (by omega)]
          rw [e] at hl
          have : ¬ 192 ≤ b.toNat := of_decide_eq_false hl
          rw [← hm]; unfold hdLen; rw [if_neg this]; omega
        refine contract_of (C := cf 139 [0, 1, 4, 5, 6, 7, 8, 9, 10, 11, 12, 13, 14, 15, 16, 17, 18, 22, 28, 34, 40, 47, 51, 55, 67, 70, 77, 84, 93, 100, 109, 114, 124] (fun _ => [])) (cf_ok _ _ _) (fn := Try.f23) Try.func23 (by kernel_rfl) rfl (by kernel_rfl) (by simp [cf]) (plain2 (.str _) (.int _ _)) (by decide) (cellsOk (by kernel_rfl)) ?_
        simp only [go_sem, seval, e0, e1, e2, wb, hpos]
        refine ex_cut (fun x : Int => ⟨[(0, .str (b :: t)), (1, .int .i64 d), (4, .var 4 0), (5, .int .i64 (0 : Int)), (6, .int .i64 (0 : Int)), (7, .var 7 0), (8, .int .i64 x), (9, .bool l), (22, .bool false), (28, .bool false), (34, .bool l)], [(4, [.bool false, .str [], .own false 3 []]), (7, [.bool false, .str [], .ext nilP])]⟩) (fun x => IntKind.i64.wrap (x - 128) = (m : Int)) (fun x hx => ?_) (fun κ hκ => ?_)
        case refine_2 =>
          cases l with
          | true =>
            simp only [go_sem, seval, w64]
            exact hκ _ (wl rfl)
          | false =>
            simp only [go_sem, seval]
            exact hκ _ (wt rfl)
        simp only [go_sem, seval, hx]
        refine ex_cut (fun q : Bool × Nat × Nat => match q.1 with
          | false => ⟨[(0, .str (b :: t)), (1, .int .i64 d), (4, .var 4 0), (5, .int .i64 (0 : Int)), (6, .int .i64 (0 : Int)), (7, .var 7 0), (8, .int .i64 x), (9, .bool l), (10, .int .i64 (q.2.2 : Nat)), (11, .int .i64 (q.2.1 : Nat)), (22, .bool false), (28, .bool false), (34, .bool l), (40, .bool false)], [(4, [.bool false, .str [], .own false 3 []]), (7, [.bool false, .str [], .ext nilP])]⟩
          | true => ⟨[(0, .str (b :: t)), (1, .int .i64 d), (4, .var 4 0), (7, .var 7 0), (9, .bool l), (10, .int .i64 (q.2.2 : Nat)), (11, .int .i64 (q.2.1 : Nat)), (12, .int .i64 (m - 55 : Nat)), (13, .int .i64 (m - 55 : Nat)), (55, .bool false), (70, .bool false)], [(4, [.bool false, .str [], .own false 3 []]), (7, [.bool false, .str [], .ext nilP])]⟩)
          (fun q => hdOf (b :: t) = .ok (l, q.2.1, q.2.2) ∧ 1 ≤ q.2.1) (fun q hq => ?_) (fun κ hκ => ?_)
        case refine_2 =>
          rcases Decidable.em (m ≤ 55) with h55 | h55
          · have e3 : decide ((m : Int) > 55) = false := decide_eq_false (by omega)
            have hh : hdOf (b :: t) = .ok (l, 1, m) := by rw [hcons]; unfold hdRest; rw [if_pos h55]
            rw [e3]
            simp only [go_sem, seval]
            exact hκ (false, 1, m) ⟨hh, Nat.le_refl _⟩
          · have e3 : decide ((m : Int) > 55) = true := decide_eq_true (by omega)
            have w55 : IntKind.i64.wrap ((m : Int) - 55) = ((m - 55 : Nat) : Int) := by rw [wi64 (by omega) (by omega)]; omega
            have wf : IntKind.i64.wrap (1 + ((m - 55 : Nat) : Int)) = ((1 + (m - 55) : Nat) : Int) := by rw [wi64 (by omega) (by omega)]; omega
            unfold hdRest at hcons
            rw [if_neg h55] at hcons
            rw [e3]
            rcases Decidable.em (t.length < m - 55) with hlt | hlt
            · rw [if_pos hlt] at hcons
              have hp : parse d (b :: t) = .error 7 := by rw [parse, hcons]
              rw [hp]
              have e4 : decide (((t.length + 1 : Nat) : Int) < ((1 + (m - 55) : Nat) : Int)) = true := decide_eq_true (by omega)
              simp only [go_sem, seval, w55, wf, e4]
              refine ex_ret_any ?_
              refine finTupD (vs' := [.agg [.bool false, .str [], .ext nilP], .int .i64 (0 : Int), .int .i64 (7 : Int)]) ?_ (fins3 (dull_none _ _) _)
              show resOf _ _ [.cell 4 26, .tmp 5, .tmp 6] = _
              simp only [go_sem, seval]
            · rw [if_neg hlt] at hcons
              have e4 : decide (((t.length + 1 : Nat) : Int) < ((1 + (m - 55) : Nat) : Int)) = false := decide_eq_false (by omega)
              obtain ⟨c0, hc0⟩ : ∃ c0, t[0]? = some c0 := ⟨_, List.getElem?_eq_getElem (by omega)⟩
              have h1lt : (1 : Int) < ((t.length + 1 : Nat) : Int) := by omega
              rcases Decidable.em (t.head? = some 0) with hz | hz
              · rw [if_pos hz] at hcons
                have hp : parse d (b :: t) = .error 1 := by rw [parse, hcons]
                rw [hp]
                have hc : c0 = 0 := by rw [List.head?_eq_getElem?, hc0] at hz; exact Option.some.inj hz
                have e5 : ((c0.toNat : Int) == 0) = true := by rw [hc]; rfl
                simp only [go_sem, seval, w55, wf, e4, hc0, h1lt, e5]
                refine ex_ret_any ?_
                refine finTupD (vs' := [.agg [.bool false, .str [], .ext nilP], .int .i64 (0 : Int), .int .i64 (1 : Int)]) ?_ (fins3 (dull_none _ _) _)
                show resOf _ _ [.cell 4 26, .tmp 5, .tmp 6] = _
                simp only [go_sem, seval]
              · rw [if_neg hz] at hcons
                have hc : c0.toNat ≠ 0 := fun e => hz (by rw [List.head?_eq_getElem?, hc0, UInt8.toNat_inj.1 (show c0.toNat = (0 : UInt8).toNat from e)])
                have e5 : ((c0.toNat : Int) == 0) = false := by simpa using hc
                simp only [go_sem, seval, w55, wf, e4, hc0, h1lt, e5]
                refine ex_iter [0, 1, 4, 7, 9, 10, 12, 13] (fun i : Nat => ⟨[(0, .str (b :: t)), (1, .int .i64 d), (4, .var 4 0), (7, .var 7 0), (9, .bool l), (10, .int .i64 (numOf (t.take i) : Nat)), (12, .int .i64 (m - 55 : Nat)), (13, .int .i64 i)], [(4, [.bool false, .str [], .own false 3 []]), (7, [.bool false, .str [], .ext nilP])]⟩)
                  (fun i => i ≤ m - 55 ∧ numOf (t.take i) ≤ 65536) (fun i => m - 55 - i) 0 ?_ ?_ ?_
                · simp only [ASt.keep, consIf, keepL, keepV, AV.isBot, List.contains_cons, List.contains_nil, Nat.reduceBEq, Bool.or_false, Bool.false_or, Bool.or_true, Bool.true_or, beq_self_eq_true, Bool.false_eq_true, ↓reduceIte, if_false, if_true]
                  rfl
                · exact ⟨Nat.zero_le _, by rw [List.take_zero]; decide⟩
                · rintro r i ⟨hi, hni⟩ next
                  simp only [go_sem, seval]
                  refine ex_br (fun hc1 => ?_) (fun hc1 => ?_)
                  · have hilt : i < m - 55 := by simpa using hc1
                    obtain ⟨c, hc⟩ : ∃ c, t[i]? = some c := ⟨_, List.getElem?_eq_getElem (by omega)⟩
                    have hcl : c.toNat < 256 := c.toNat_lt
                    have hget : (b :: t)[1 + i]? = some c := by rw [Nat.add_comm, List.getElem?_cons_succ]; exact hc
                    have hsn : numOf (t.take (i + 1)) = numOf (t.take i) * 256 + c.toNat := by rw [List.take_add_one, hc]; exact numOf_snoc _ _
                    have w1 : IntKind.i64.wrap ((numOf (t.take i) : Int) * 256) = (numOf (t.take i) : Int) * 256 := wi64 (by omega) (by omega)
                    have w2 : IntKind.i64.wrap (1 + (i : Int)) = ((1 + i : Nat) : Int) := by rw [wi64 (by omega) (by omega)]; omega
                    have w3 : IntKind.i64.wrap (c.toNat : Int) = (c.toNat : Int) := wi64n _ (by omega)
                    have w4 : IntKind.i64.wrap ((numOf (t.take i) : Int) * 256 + (c.toNat : Int)) = (numOf (t.take (i + 1)) : Int) := by rw [wi64 (by omega) (by omega), hsn]; omega
                    simp only [go_sem, seval, w1, w2, w3, w4, Int.toNat_natCast, hget]
                    refine ⟨by omega, ?_⟩
                    refine ex_br (fun hc2 => ?_) (fun hc2 => ?_)
                    · have hbig : numOf (t.take (i + 1)) > 65536 := by simp at hc2; omega
                      have := numOf_take_le t (show i + 1 ≤ m - 55 by omega)
                      rw [if_pos (.inl (by omega))] at hcons
                      have hp : parse d (b :: t) = .error 1 := by rw [parse, hcons]
                      rw [hp]
                      simp only [go_sem, seval]
                      refine ex_ret_any ?_
                      refine finTupD (vs' := [.agg [.bool false, .str [], .ext nilP], .int .i64 (0 : Int), .int .i64 (1 : Int)]) ?_ (fins3 (dull_none _ _) _)
                      show resOf _ _ [.cell 4 26, .tmp 5, .tmp 6] = _
                      simp only [go_sem, seval]
                    · have hsm : numOf (t.take (i + 1)) ≤ 65536 := by simp at hc2; omega
                      simp only [go_sem, seval]
                      refine next (i + 1) _ ⟨by omega, hsm⟩ (by omega) ?_
                      rw [← wi64_nat i (by omega)]
                      simp only [ASt.keep, consIf, keepL, keepV, AV.isBot, List.contains_cons, List.contains_nil, Nat.reduceBEq, Bool.or_false, Bool.false_or, Bool.or_true, Bool.true_or, beq_self_eq_true, Bool.false_eq_true, ↓reduceIte, if_false, if_true]
                  · have hie : i = m - 55 := by simp at hc1; omega
                    subst hie
                    have hirr : decide (((m - 55 : Nat) : Int) < ((m - 55 : Nat) : Int)) = false := decide_eq_false (by omega)
                    rw [hirr]
                    simp only [go_sem, seval]
                    rcases Decidable.em (numOf (t.take (m - 55)) < 56) with h7 | h7
                    · have e7 : decide ((numOf (t.take (m - 55)) : Int) < 56) = true := decide_eq_true (by omega)
                      rw [if_pos (.inr (by omega))] at hcons
                      have hp : parse d (b :: t) = .error 1 := by rw [parse, hcons]
                      rw [hp]
                      simp only [go_sem, seval, e7]
                      refine ex_ret_any ?_
                      refine finTupD (vs' := [.agg [.bool false, .str [], .ext nilP], .int .i64 (0 : Int), .int .i64 (1 : Int)]) ?_ (fins3 (dull_none _ _) _)
                      show resOf _ _ [.cell 4 26, .tmp 5, .tmp 6] = _
                      simp only [go_sem, seval]
                    · have e7 : decide ((numOf (t.take (m - 55)) : Int) < 56) = false := decide_eq_false (by omega)
                      rw [if_neg (by omega)] at hcons
                      simp only [go_sem, seval, e7, wf]
                      exact hκ (true, 1 + (m - 55), numOf (t.take (m - 55))) ⟨hcons, Nat.le_add_right 1 _⟩
        obtain ⟨o, f, n⟩ := q
        obtain ⟨hh, hf⟩ := hq
        simp only at hh hf
        obtain ⟨b1, b2, b3⟩ := hd_bounds hh
        rw [parse_body hh]
        have wfn : IntKind.i64.wrap ((f : Int) + (n : Int)) = ((f + n : Nat) : Int) := by rw [wi64 (by omega) (by omega)]; omega
        have hsub : f + n - f = n := by omega
        unfold bodyR
        rw [List.length_cons]
        cases o
        all_goals
          rcases Decidable.em (f + n > 65536) with h2 | h2
          · rw [if_pos h2]
            have e3 : decide (((f + n : Nat) : Int) > 65536) = true := decide_eq_true (by omega)
            simp only [go_sem, seval, wfn, e3]
            refine finTupD (vs' := [.agg [.bool false, .str [], .ext nilP], .int .i64 (0 : Int), .int .i64 (1 : Int)]) ?_ (fins3 (dull_none _ _) _)
            show resOf _ _ [.cell 4 26, .tmp 5, .tmp 6] = _
            simp only [go_sem, seval]
          rw [if_neg h2]
          have e3 : decide (((f + n : Nat) : Int) > 65536) = false := decide_eq_false (by omega)
          rcases Decidable.em (t.length + 1 < f + n) with h3 | h3
          · rw [if_pos h3]
            have e4 : decide (((t.length + 1 : Nat) : Int) < ((f + n : Nat) : Int)) = true := decide_eq_true (by omega)
            simp only [go_sem, seval, wfn, e3, e4]
            refine finTupD (vs' := [.agg [.bool false, .str [], .ext nilP], .int .i64 (0 : Int), .int .i64 (7 : Int)]) ?_ (fins3 (dull_none _ _) _)
            show resOf _ _ [.cell 4 26, .tmp 5, .tmp 6] = _
            simp only [go_sem, seval]
          rw [if_neg h3]
          have e4 : decide (((t.length + 1 : Nat) : Int) < ((f + n : Nat) : Int)) = false := decide_eq_false (by omega)
          have hlen : (((b :: t).drop f).take n).length = n := by rw [List.length_take, List.length_drop, List.length_cons]; omega
          obtain ⟨body, hbody⟩ : ∃ body, body = ((b :: t).drop f).take n := ⟨_, rfl⟩
          rw [← hbody] at hlen ⊢
          cases l
          case' false =>
            rw [if_pos rfl]
            simp only [go_sem, seval, wfn, e3, e4, Int.toNat_natCast, hsub]
            refine ⟨by omega, ?_⟩
            rw [← hbody]
            rcases Decidable.em (n = 1) with hn1 | hn1
            · subst hn1
              obtain ⟨c, hc⟩ : ∃ c, body = [c] := List.length_eq_one_iff.1 hlen
              subst hc
              have ha : aloneB [c] = decide (c.toNat < 128) := rfl
              have e8 : decide ((c.toNat : Int) < 128) = decide (c.toNat < 128) := decide_congr (by omega)
              rw [ha]
              cases h8 : decide (c.toNat < 128) with
              | true =>
                rw [h8] at e8
                rw [if_pos ⟨hf, rfl⟩]
                simp only [go_sem, seval, e8, Int.cast_ofNat_Int]
                refine finTupD (vs' := [.agg [.bool false, .str [], .ext nilP], .int .i64 (0 : Int), .int .i64 (1 : Int)]) ?_ (fins3 (dull_none _ _) _)
                show resOf _ _ [.cell 4 26, .tmp 5, .tmp 6] = _
                simp only [go_sem, seval]
              | false =>
                rw [h8] at e8
                rw [if_neg (fun h => by cases h.2)]
                simp only [go_sem, seval, e8, wfn, Int.cast_ofNat_Int]
                refine finTupD (vs' := [.agg [.bool false, .str [c], .ext nilP], .int .i64 ((f + 1 : Nat) : Int), .int .i64 (0 : Int)]) ?_ (fins3 (dull_none _ _) _)
                show resOf _ _ [.cell 4 26, .tmp 5, .tmp 6] = _
                have wf1 : IntKind.i64.wrap ((f : Int) + 1) = ((f + 1 : Nat) : Int) := wfn
                simp only [go_sem, seval, wf1]
            · have e8 : ((n : Int) == 1) = false := by simpa using (by omega : ¬ (n : Int) = 1)
              have ha : aloneB body = false := by
                cases hq : aloneB body with
                | false => rfl
                | true => have := alone_len hq; omega
              rw [ha, if_neg (fun h => by cases h.2)]
              simp only [go_sem, seval, e8, wfn]
              refine finTupD (vs' := [.agg [.bool false, .str body, .ext nilP], .int .i64 ((f + n : Nat) : Int), .int .i64 (0 : Int)]) ?_ (fins3 (dull_none _ _) _)
              show resOf _ _ [.cell 4 26, .tmp 5, .tmp 6] = _
              simp only [go_sem, seval]
          case' true =>
            rw [if_neg (by simp)]
            simp only [go_sem, seval, wfn, e3, e4, Int.toNat_natCast, hsub, wd]
            refine ⟨by omega, ?_⟩
            rw [← hbody]
            rcases Decidable.em (16 ≤ d) with h9 | h9
            · rw [if_pos h9]
              have e9 : decide (((d + 1 : Nat) : Int) > 16) = true := decide_eq_true (by omega)
              simp only [go_sem, seval, e9]
              refine finTupD (vs' := [.agg [.bool false, .str [], .ext nilP], .int .i64 (0 : Int), .int .i64 (1 : Int)]) ?_ (fins3 (dull_none _ _) _)
              show resOf _ _ [.cell 4 26, .tmp 5, .tmp 6] = _
              simp only [go_sem, seval]
            rw [if_neg h9]
            have e9 : decide (((d + 1 : Nat) : Int) > 16) = false := decide_eq_false (by omega)
            simp only [go_sem, seval, e9]
            refine ex_iter [1, 4, 7, 10, 11, 14, 15] (fun q : List ItemD × List UInt8 => ⟨[(1, .int .i64 d), (4, .var 4 0), (7, .var 7 0), (10, .int .i64 n), (11, .int .i64 f), (14, .str q.2), (15, .var 15 0)], [(4, [.bool false, .str [], .own false 3 []]), (7, [.bool false, .str [], .ext nilP]), (15, [.bool true, .str [], repI 3 q.1.length (q.1.map ItemD.av)])]⟩)
              (fun q => q.1.length + q.2.length ≤ n ∧ itemsP (d + 1) body = (itemsP (d + 1) q.2).map (q.1 ++ ·)) (fun q => q.2.length) ([], body) ?_ ?_ ?_
            · simp only [ASt.keep, consIf, keepL, keepV, AV.isBot, List.contains_cons, List.contains_nil, Nat.reduceBEq, Bool.or_false, Bool.false_or, Bool.or_true, Bool.true_or, beq_self_eq_true, Bool.false_eq_true, ↓reduceIte, if_false, if_true]
              rfl
            · refine ⟨by simp only [List.length_nil]; omega, ?_⟩
              cases itemsP (d + 1) body <;> rfl
            · rintro r ⟨xs, rest⟩ ⟨hq1, hq2⟩ next
              simp only at hq1 hq2
              simp only [go_sem, seval]
              refine ex_br (fun hc => ?_) (fun hc => ?_)
              · have hne : rest ≠ [] := by rintro rfl; simp at hc
                have hone := itemsP_cons (d := d + 1) hne
                have hcall := ih rest.length (by omega) rest (d + 1) (Nat.le_refl _) (by omega) (by omega)
                simp only [go_sem, seval, wd]
                cases ho : parse (d + 1) rest with
                | error e =>
                  rw [ho] at hcall hone
                  have he0 : ((e : Int) != 0) = true := by rcases parse_errD ho with rfl | rfl <;> rfl
                  have hnone : itemsP (d + 1) body = none := by rw [hq2, hone]; rfl
                  rw [hnone]
                  unfold resP at hcall
                  refine ex_call (by exact hcall) ?_
                  simp only [go_sem, seval, he0]
                  refine finTupD (vs' := [.agg [.bool false, .str [], .ext nilP], .int .i64 (0 : Int), .int .i64 (1 : Int)]) ?_ (fins3 (dull_none _ _) _)
                  show resOf _ _ [.cell 4 26, .tmp 5, .tmp 6] = _
                  simp only [go_sem, seval]
                | ok r2 =>
                  obtain ⟨x, k⟩ := r2
                  rw [ho] at hcall hone
                  have hpo := parse_ok ho
                  have hp1 := hpo.pos
                  have hp2 := hpo.le
                  simp only at hone
                  rw [if_pos (by omega)] at hone
                  unfold resP at hcall
                  refine ex_call (by exact hcall) ?_
                  have hinv : (xs ++ [x]).length + (rest.drop k).length ≤ n ∧ itemsP (d + 1) body = (itemsP (d + 1) (rest.drop k)).map ((xs ++ [x]) ++ ·) := by
                    refine ⟨by simp only [List.length_append, List.length_singleton, List.length_drop]; omega, ?_⟩
                    rw [hq2, hone, Option.map_map]
                    congr 1
                    funext ys
                    simp
                  have hmu : (rest.drop k).length < rest.length := by rw [List.length_drop]; omega
                  cases xs with
                  | nil =>
                    simp only [go_sem, seval, repI, Int.toNat_natCast]
                    repeat with_reducible refine And.intro (by first | omega | (simp only [List.length_cons, List.length_append, List.length_nil, List.length_map, List.length_take, List.length_drop, List.length_set]; omega)) ?_
                    refine next ([] ++ [x], rest.drop k) _ hinv hmu ?_
                    simp only [ASt.keep, consIf, keepL, keepV, AV.isBot, List.contains_cons, List.contains_nil, Nat.reduceBEq, Bool.or_false, Bool.false_or, Bool.or_true, Bool.true_or, beq_self_eq_true, Bool.false_eq_true, ↓reduceIte, if_false, if_true]
                    simp only [List.nil_append, List.map_cons, List.map_nil, ItemD.av_eq, ItemD.cells, List.length_singleton, repI]
                    rw [List.take_of_length_le (by simp)]
                  | cons y ys =>
                    have hyl : ys.length + 1 + rest.length ≤ n := hq1
                    simp only [go_sem, seval, repI, List.length_map, Int.toNat_natCast]
                    repeat with_reducible refine And.intro (by first | omega | (simp only [List.length_cons, List.length_append, List.length_nil, List.length_map, List.length_take, List.length_drop, List.length_set]; omega)) ?_
                    refine next ((y :: ys) ++ [x], rest.drop k) _ hinv hmu ?_
                    simp only [ASt.keep, consIf, keepL, keepV, AV.isBot, List.contains_cons, List.contains_nil, Nat.reduceBEq, Bool.or_false, Bool.false_or, Bool.or_true, Bool.true_or, beq_self_eq_true, Bool.false_eq_true, ↓reduceIte, if_false, if_true]
                    simp only [List.cons_append, List.map_append, List.map_cons, List.map_nil, ItemD.av_eq, ItemD.cells, List.length_cons, repI]
                    rw [List.take_of_length_le (by simp)]
              · have hnil : rest = [] := by
                  cases rest with
                  | nil => rfl
                  | cons _ _ => simp at hc
                subst hnil
                have hsome : itemsP (d + 1) body = some xs := by rw [hq2, itemsP_nil]; simp
                rw [hsome]
                cases xs with
                | nil =>
                  simp only [go_sem, seval, repI, wfn]
                  refine finTupD (vs' := [.agg [.bool true, .str [], .ext nilP], .int .i64 ((f + n : Nat) : Int), .int .i64 (0 : Int)]) ?_ (fins3 (dull_none _ _) _)
                  show resOf _ _ [.cell 4 26, .tmp 5, .tmp 6] = _
                  simp only [go_sem, seval]
                | cons y ys =>
                  simp only [go_sem, seval, repI, wfn]
                  refine finTupD (vs' := [.agg [.bool true, .str [], .sl true 3 ((y :: ys).map ItemD.av)], .int .i64 ((f + n : Nat) : Int), .int .i64 (0 : Int)]) ?_ (fins3 (dull_item _ _ _ _) _)
                  show resOf _ _ [.cell 4 26, .tmp 5, .tmp 6] = _
                  simp only [go_sem, seval]
end Go.Proofs.Ytdenldjlijoeoaa.VA
end
section
/- Items out of bytes: the page's answer at the top. -/
namespace Go.Proofs.Ytdenldjlijoeoaa.VA
set_option maxRecDepth 10000
set_option linter.unusedSimpArgs false
set_option linter.unusedVariables false
set_option maxHeartbeats 4000000

theorem c_ref4_Take (s : List UInt8) (hs : s.length ≤ 16777216) : Contract Try.prog 7 [.str s] (resP (parse 0 s)) := by
  have h := c_take s.length s 0 (Nat.le_refl _) hs (by omega)
  cases hp : parse 0 s with
  | error e =>
    rw [hp] at h
    unfold resP at h
    refine contract_of (C := cf 10 [0, 2, 3, 4] (fun _ => [])) (cf_ok _ _ _) (fn := Try.f7) Try.func7 (by kernel_rfl) rfl (by kernel_rfl) (by simp [cf]) (plain1 (.str _)) (by decide) (cellsOk (by kernel_rfl)) ?_
    simp only [go_sem, ↓reduceIte, Nat.reduceLT, Nat.reduceLeDiff, Nat.reduceAdd, Nat.reduceSub, Nat.reduceMul, Nat.reduceEqDiff, Nat.reduceBEq, Nat.reduceMod, Nat.reduceDiv, Int.reduceToNat, reduceCtorEq, Int.reduceLT, Int.reduceLE, Int.reduceGT, Int.reduceGE, Int.reduceAdd, Int.reduceSub, Int.reduceMul, Int.reduceNeg, Int.reduceEq, Int.reduceNe, Int.reduceBNe, Int.reduceBEq, Int.reduceDiv]
    refine ex_call (by exact h) ?_
    simp only [go_sem, ↓reduceIte, Nat.reduceLT, Nat.reduceLeDiff, Nat.reduceAdd, Nat.reduceSub, Nat.reduceMul, Nat.reduceEqDiff, Nat.reduceBEq, Nat.reduceMod, Nat.reduceDiv, Int.reduceToNat, reduceCtorEq, Int.reduceLT, Int.reduceLE, Int.reduceGT, Int.reduceGE, Int.reduceAdd, Int.reduceSub, Int.reduceMul, Int.reduceNeg, Int.reduceEq, Int.reduceNe, Int.reduceBNe, Int.reduceBEq, Int.reduceDiv]
    refine finTup ?_
    show resOf _ _ [.cell 2 26, .tmp 3, .tmp 4] = _
    simp only [go_sem, ↓reduceIte, Nat.reduceLT, Nat.reduceLeDiff, Nat.reduceAdd, Nat.reduceSub, Nat.reduceMul, Nat.reduceEqDiff, Nat.reduceBEq, Nat.reduceMod, Nat.reduceDiv, Int.reduceToNat, reduceCtorEq, Int.reduceLT, Int.reduceLE, Int.reduceGT, Int.reduceGE, Int.reduceAdd, Int.reduceSub, Int.reduceMul, Int.reduceNeg, Int.reduceEq, Int.reduceNe, Int.reduceBNe, Int.reduceBEq, Int.reduceDiv]
  | ok r =>
    obtain ⟨it, k⟩ := r
    rw [hp] at h
    unfold resP at h
    refine contract_of (C := cf 10 [0, 2, 3, 4] (fun _ => [])) (cf_ok _ _ _) (fn := Try.f7) Try.func7 (by kernel_rfl) rfl (by kernel_rfl) (by simp [cf]) (plain1 (.str _)) (by decide) (cellsOk (by kernel_rfl)) ?_
    simp only [go_sem, ↓reduceIte, Nat.reduceLT, Nat.reduceLeDiff, Nat.reduceAdd, Nat.reduceSub, Nat.reduceMul, Nat.reduceEqDiff, Nat.reduceBEq, Nat.reduceMod, Nat.reduceDiv, Int.reduceToNat, reduceCtorEq, Int.reduceLT, Int.reduceLE, Int.reduceGT, Int.reduceGE, Int.reduceAdd, Int.reduceSub, Int.reduceMul, Int.reduceNeg, Int.reduceEq, Int.reduceNe, Int.reduceBNe, Int.reduceBEq, Int.reduceDiv]
    refine ex_call (by exact h) ?_
    simp only [go_sem, ↓reduceIte, Nat.reduceLT, Nat.reduceLeDiff, Nat.reduceAdd, Nat.reduceSub, Nat.reduceMul, Nat.reduceEqDiff, Nat.reduceBEq, Nat.reduceMod, Nat.reduceDiv, Int.reduceToNat, reduceCtorEq, Int.reduceLT, Int.reduceLE, Int.reduceGT, Int.reduceGE, Int.reduceAdd, Int.reduceSub, Int.reduceMul, Int.reduceNeg, Int.reduceEq, Int.reduceNe, Int.reduceBNe, Int.reduceBEq, Int.reduceDiv]
    refine finTup ?_
    show resOf _ _ [.cell 2 26, .tmp 3, .tmp 4] = _
    simp only [go_sem, ↓reduceIte, Nat.reduceLT, Nat.reduceLeDiff, Nat.reduceAdd, Nat.reduceSub, Nat.reduceMul, Nat.reduceEqDiff, Nat.reduceBEq, Nat.reduceMod, Nat.reduceDiv, Int.reduceToNat, reduceCtorEq, Int.reduceLT, Int.reduceLE, Int.reduceGT, Int.reduceGE, Int.reduceAdd, Int.reduceSub, Int.reduceMul, Int.reduceNeg, Int.reduceEq, Int.reduceNe, Int.reduceBNe, Int.reduceBEq, Int.reduceDiv]
theorem parse_itok {s : List UInt8} {it : ItemD} {k : Nat} (hs : s.length ≤ 4194304) (h : parse 0 s = .ok (it, k)) : it.ok := by
  have := (parse_ok h).wt
  have := (parse_ok h).le
  unfold ItemD.ok; omega
end Go.Proofs.Ytdenldjlijoeoaa.VA
end
section
/- Transactions as items: plain laws. -/
namespace Go.Proofs.Ytdenldjlijoeoaa.VA
set_option maxRecDepth 10000
set_option linter.unusedSimpArgs false
set_option linter.unusedVariables false

abbrev leaf (s : List UInt8) : ItemD := .mk false s []
abbrev listI (xs : List ItemD) : ItemD := .mk true [] xs
abbrev numI (n : Nat) : ItemD := leaf (bytesOf n)
def hashI (t : TxD) : ItemD := listI (t.hashes.map fun h => leaf (textOf h))
def blobI (t : TxD) : ItemD := listI (t.blobs.map leaf)
def txItem (t : TxD) : ItemD := listI [numI t.frm.toNat, numI t.nonce.toNat, numI t.tip, numI t.cap, numI t.bcap, numI t.value, numI t.gas.toNat, hashI t, blobI t]
def txRaw (t : TxD) : List UInt8 := rawOf (txItem t)
theorem leaf_raw {s : List UInt8} (h : s.length < 1099511627776) : (rawOf (leaf s)).length ≤ s.length + 6 := by
  rw [rawOf_text rfl]
  have := ahead_le h
  split
  · exact Nat.le_add_right _ _
  · rw [List.length_append, headB_len]
    show aheadN s.length + s.length ≤ _
    omega
theorem leaf_short {s : List UInt8} (h : s.length ≤ 55) : (rawOf (leaf s)).length ≤ s.length + 1 := by
  rw [rawOf_text rfl]
  split
  · exact Nat.le_add_right _ _
  · rw [List.length_append, headB_len]
    show aheadN s.length + s.length ≤ _
    unfold aheadN
    rw [if_pos h]; omega
theorem leaf_may (d : Nat) {s : List UInt8} (h : s.length ≤ 65000) : okI d (leaf s) = true := by
  rw [okI_text d rfl, Bool.and_eq_true, decide_eq_true_eq]
  have := leaf_raw (s := s) (by omega)
  exact ⟨rfl, by omega⟩
theorem raws_bound {xs : List ItemD} {m : Nat} (h : ∀ x ∈ xs, (rawOf x).length ≤ m) : (raws xs).length ≤ m * xs.length := by
  induction xs with
  | nil => rw [raws_nil]; simp
  | cons x xs ih =>
    rw [raws_cons, List.length_append, List.length_cons, Nat.mul_add, Nat.mul_one]
    have := h x (by simp)
    have := ih fun y hy => h y (List.mem_cons_of_mem _ hy)
    omega
theorem list_raw (xs : List ItemD) : (rawOf (listI xs)).length = aheadN (raws xs).length + (raws xs).length := by
  rw [rawOf_list rfl, List.length_append, headB_len]; rfl
theorem list_may {d : Nat} {xs : List ItemD} (hd : d < 16) (h : ∀ x ∈ xs, okI (d + 1) x = true) (hl : (raws xs).length ≤ 65000) : okI d (listI xs) = true := by
  rw [okI_list d rfl]
  have := list_raw xs
  have := ahead_le (n := (raws xs).length) (by omega)
  simp only [Bool.and_eq_true, decide_eq_true_eq]
  exact ⟨⟨⟨rfl, hd⟩, okIs_all h⟩, by omega⟩
theorem byteLen_U {n : Nat} (h : n < U) : byteLen n ≤ 32 := (byteLen_le n 32).2 (by
  have : (256 : Nat) ^ 32 = U := by unfold U; decide
  omega)
theorem unlike_no : ∀ {hs : List Int} {bs : List (List UInt8)}, hs.length = bs.length → unlike hs bs = false → hs = bs.map hashOf
  | [], [], _, _ => rfl
  | h :: hs, b :: bs, hl, hu => by
    simp only [unlike, Bool.or_eq_false_iff, bne_eq_false_iff_eq] at hu
    rw [List.map_cons, hu.1, ← unlike_no (by simpa using hl) hu.2]
  | [], _ :: _, hl, _ => by simp at hl
  | _ :: _, [], hl, _ => by simp at hl
theorem fits_all {hs : List Int} {bs : List (List UInt8)} (h : fitsOf hs bs = 0) : hs = bs.map hashOf ∧ (∀ b ∈ bs, b.length ≤ 64) ∧ 1 ≤ bs.length ∧ bs.length ≤ 4 := by
  have hl := fits_len h
  unfold fitsOf at h
  cases hb : badFit hs bs with
  | true => rw [hb] at h; cases h
  | false =>
    rw [hb] at h
    cases ht : tooLong bs with
    | true => rw [ht] at h; cases h
    | false =>
      rw [ht] at h
      cases hu : unlike hs bs with
      | true => rw [hu] at h; cases h
      | false =>
        refine ⟨unlike_no hl.2.2 hu, fun b hb => ?_, hl.1, hl.2.1⟩
        unfold tooLong at ht
        rw [List.any_eq_false] at ht
        have := ht b hb
        simp only [decide_eq_true_eq] at this
        omega
theorem hashOf_range (b : List UInt8) : 0 ≤ hashOf b ∧ hashOf b < 18446744073709551616 := markFrom_range _ 14695981039346656037 (by decide) (by decide)
structure Valid (t : TxD) : Prop where
  frm : 0 ≤ t.frm ∧ t.frm < 8
  nonce : 0 ≤ t.nonce ∧ t.nonce ≤ 1099511627776
  gas : 0 ≤ t.gas ∧ t.gas ≤ 1073741824
  tip : t.tip ≤ t.cap
  fits : fitsOf t.hashes t.blobs = 0
  cost : costOf t < U
  hashes : t.hashes = t.blobs.map hashOf
  blob : ∀ b ∈ t.blobs, b.length ≤ 64
  one : 1 ≤ t.blobs.length
  four : t.blobs.length ≤ 4
theorem valid_of {t : TxD} (h : validTx t = true) : Valid t := by
  simp only [validTx, Bool.and_eq_true, decide_eq_true_eq] at h
  obtain ⟨⟨⟨⟨⟨⟨h1, h2⟩, h3, h4⟩, h5, h6⟩, h7⟩, h8⟩, h9⟩ := h
  obtain ⟨f1, f2, f3, f4⟩ := fits_all h8
  exact ⟨⟨h1, h2⟩, ⟨h3, h4⟩, ⟨h5, h6⟩, h7, h8, h9, f1, f2, f3, f4⟩
theorem num_short {n : Nat} (h : n < U) : (bytesOf n).length ≤ 32 := by rw [bytesOf_len]; exact byteLen_U h
theorem lt_U40 {n : Int} (h : n ≤ 1099511627776) : n.toNat < U := by unfold U; omega
theorem textOf_len (m : Int) : (textOf m).length = 8 := rfl
theorem hashI_raw {t : TxD} (h4 : t.hashes.length ≤ 4) : (raws (hashI t).items).length ≤ 36 := by
  have := raws_bound (xs := (hashI t).items) (m := 9) fun x hx => by
    obtain ⟨m, _, rfl⟩ := List.mem_map.1 hx
    exact leaf_short (s := textOf m) (by rw [textOf_len]; omega)
  have e : (hashI t).items.length = t.hashes.length := by show (t.hashes.map _).length = _; simp
  rw [e] at this
  omega
theorem blobI_raw {t : TxD} (h4 : t.blobs.length ≤ 4) (hb : ∀ b ∈ t.blobs, b.length ≤ 64) : (raws (blobI t).items).length ≤ 280 := by
  have := raws_bound (xs := (blobI t).items) (m := 70) fun x hx => by
    obtain ⟨b, hm, rfl⟩ := List.mem_map.1 hx
    have := hb b hm
    have := leaf_raw (s := b) (by omega)
    omega
  have e : (blobI t).items.length = t.blobs.length := by show (t.blobs.map _).length = _; simp
  rw [e] at this
  omega
theorem num_raw {n : Nat} (h : n < U) : (rawOf (numI n)).length ≤ 33 := by
  have h1 := num_short h
  have h2 : (rawOf (numI n)).length ≤ _ := leaf_short (s := bytesOf n) (by omega)
  omega
theorem valid_hlen {t : TxD} (hv : Valid t) : t.hashes.length ≤ 4 := by rw [hv.hashes, List.length_map]; exact hv.four
theorem tx_raws {t : TxD} (h : t.ok) (hv : Valid t) : (raws (txItem t).items).length ≤ 560 := by
  have h0 := num_raw (n := t.frm.toNat) (lt_U40 (by have := hv.frm; omega))
  have h1 := num_raw (n := t.nonce.toNat) (lt_U40 hv.nonce.2)
  have h2 := num_raw h.tip
  have h3 := num_raw h.cap
  have h4 := num_raw h.bcap
  have h5 := num_raw h.value
  have h6 := num_raw (n := t.gas.toNat) (lt_U40 (by have := hv.gas; omega))
  have h7 := hashI_raw (valid_hlen hv)
  have h8 := blobI_raw hv.four hv.blob
  have a7 := ahead_le (n := (raws (hashI t).items).length) (by omega)
  have a8 := ahead_le (n := (raws (blobI t).items).length) (by omega)
  have l7 : (rawOf (hashI t)).length = _ := list_raw (hashI t).items
  have l8 : (rawOf (blobI t)).length = _ := list_raw (blobI t).items
  show (raws [_, _, _, _, _, _, _, _, _]).length ≤ _
  simp only [raws_cons, raws_nil, List.length_append, List.length_nil]
  omega
theorem tx_may {t : TxD} (h : t.ok) (hv : Valid t) : okI 0 (txItem t) = true := by
  have nn : ∀ {n : Nat}, n < U → okI 1 (numI n) = true := fun hn => leaf_may 1 (by have := num_short hn; omega)
  refine list_may (by decide) (fun x hx => ?_) (by have : (raws (txItem t).items).length ≤ 560 := tx_raws h hv; exact Nat.le_trans this (by decide))
  simp only [List.mem_cons, List.not_mem_nil, or_false] at hx
  rcases hx with rfl | rfl | rfl | rfl | rfl | rfl | rfl | rfl | rfl
  · exact nn (lt_U40 (by have := hv.frm; omega))
  · exact nn (lt_U40 hv.nonce.2)
  · exact nn h.tip
  · exact nn h.cap
  · exact nn h.bcap
  · exact nn h.value
  · exact nn (lt_U40 (by have := hv.gas; omega))
  · refine list_may (by decide) (fun x hx => ?_) (Nat.le_trans (hashI_raw (valid_hlen hv)) (by decide))
    obtain ⟨m, _, rfl⟩ := List.mem_map.1 hx
    exact leaf_may 2 (by rw [textOf_len]; omega)
  · refine list_may (by decide) (fun x hx => ?_) (Nat.le_trans (blobI_raw hv.four hv.blob) (by decide))
    obtain ⟨b, hm, rfl⟩ := List.mem_map.1 hx
    exact leaf_may 2 (by have := hv.blob b hm; omega)
theorem txRaw_len {t : TxD} (h : t.ok) (hv : Valid t) : (txRaw t).length ≤ 566 := by
  have := tx_raws h hv
  have := ahead_le (n := (raws (txItem t).items).length) (by omega)
  have e : (txRaw t).length = _ := list_raw (txItem t).items
  omega
theorem leaf_wt (s : List UInt8) : (leaf s).wt = 1 + s.length := by rw [wt_eq]; show 1 + s.length + wts [] = _; rw [wts_nil, Nat.add_zero]
theorem list_wt (xs : List ItemD) : (listI xs).wt = 1 + wts xs := by rw [wt_eq]; show 1 + 0 + wts xs = _; rw [Nat.add_zero]
theorem wts_bound {xs : List ItemD} {m : Nat} (h : ∀ x ∈ xs, x.wt ≤ m) : wts xs ≤ m * xs.length := by
  induction xs with
  | nil => rw [wts_nil]; simp
  | cons x xs ih =>
    rw [wts_cons, List.length_cons, Nat.mul_add, Nat.mul_one]
    have := h x (by simp)
    have := ih fun y hy => h y (List.mem_cons_of_mem _ hy)
    omega
theorem tx_itok {t : TxD} (h : t.ok) (hv : Valid t) : (txItem t).ok := by
  have nn : ∀ {n : Nat}, n < U → (numI n).wt ≤ 33 := fun hn => by rw [leaf_wt]; have := num_short hn; omega
  have h0 := nn (n := t.frm.toNat) (lt_U40 (by have := hv.frm; omega))
  have h1 := nn (n := t.nonce.toNat) (lt_U40 hv.nonce.2)
  have h2 := nn h.tip
  have h3 := nn h.cap
  have h4 := nn h.bcap
  have h5 := nn h.value
  have h6 := nn (n := t.gas.toNat) (lt_U40 (by have := hv.gas; omega))
  have h7 : (hashI t).wt ≤ 37 := by
    have hw := wts_bound (xs := (hashI t).items) (m := 9) fun x hx => by
      obtain ⟨m, _, rfl⟩ := List.mem_map.1 hx
      rw [leaf_wt, textOf_len]; omega
    have e : (hashI t).items.length = t.hashes.length := by show (t.hashes.map _).length = _; simp
    have e2 : (hashI t).wt = _ := list_wt (hashI t).items
    have := valid_hlen hv
    rw [e] at hw
    omega
  have h8 : (blobI t).wt ≤ 261 := by
    have hw := wts_bound (xs := (blobI t).items) (m := 65) fun x hx => by
      obtain ⟨b, hm, rfl⟩ := List.mem_map.1 hx
      rw [leaf_wt]
      have := hv.blob b hm
      omega
    have e : (blobI t).items.length = t.blobs.length := by show (t.blobs.map _).length = _; simp
    have e2 : (blobI t).wt = _ := list_wt (blobI t).items
    have := hv.four
    rw [e] at hw
    omega
  unfold ItemD.ok
  have e : (txItem t).wt = _ := list_wt (txItem t).items
  rw [e]
  show 1 + wts [_, _, _, _, _, _, _, _, _] ≤ _
  simp only [wts_cons, wts_nil]
  omega
/-! Back. -/
theorem takeU_bytes {n : Nat} (h : n < U) : takeU (bytesOf n) = (n, true) := by
  unfold takeU
  rw [if_neg (fun e => by
    rcases e with e | e
    · have := num_short h; omega
    · exact bytesOf_head n e), bytesOf_val]
def eachI (x : ItemD) : List ItemD := if x.list = true then x.items else []
def smallU (n : Nat) : Bool := decide (n < 9223372036854775808)
def nums (l : List ItemD) : Bool := l.all fun x => (takeU x.text).2
def fieldsTx (x0 x1 x2 x3 x4 x5 x6 x7 x8 : ItemD) : TxD :=
  ⟨(takeU x0.text).1, (takeU x1.text).1, (takeU x2.text).1, (takeU x3.text).1, (takeU x4.text).1, (takeU x5.text).1, (takeU x6.text).1, (eachI x7).map (fun x => (takeOf x.text).1), (eachI x8).map ItemD.text⟩
def readTx : List ItemD → Option TxD
  | [x0, x1, x2, x3, x4, x5, x6, x7, x8] =>
    if nums [x0, x1, x2, x3, x4, x5, x6] = true then
      (if (smallU (takeU x0.text).1 && smallU (takeU x1.text).1 && smallU (takeU x6.text).1) = true then some (fieldsTx x0 x1 x2 x3 x4 x5 x6 x7 x8) else none)
    else none
  | _ => none
def takeTx (s : List UInt8) : Option TxD :=
  match parseAll s with
  | .error _ => none
  | .ok it => match readTx it.items with
    | none => none
    | some t => if validTx t = true ∧ txRaw t = s then some t else none
theorem fields_tx {t : TxD} (h : t.ok) (hv : Valid t) : fieldsTx (numI t.frm.toNat) (numI t.nonce.toNat) (numI t.tip) (numI t.cap) (numI t.bcap) (numI t.value) (numI t.gas.toNat) (hashI t) (blobI t) = t := by
  unfold fieldsTx
  have b0 := takeU_bytes (n := t.frm.toNat) (lt_U40 (by have := hv.frm; omega))
  have b1 := takeU_bytes (n := t.nonce.toNat) (lt_U40 hv.nonce.2)
  have b6 := takeU_bytes (n := t.gas.toNat) (lt_U40 (by have := hv.gas; omega))
  have e : ∀ s : List UInt8, (leaf s).text = s := fun _ => rfl
  rw [e, e, e, e, e, e, e, b0, b1, takeU_bytes h.tip, takeU_bytes h.cap, takeU_bytes h.bcap, takeU_bytes h.value, b6]
  have h7 : (eachI (hashI t)).map (fun x => (takeOf x.text).1) = t.hashes := by
    show ((t.hashes.map fun h => leaf (textOf h))).map (fun x => (takeOf x.text).1) = t.hashes
    rw [List.map_map]
    refine (List.map_congr_left (g := id) fun m hm => ?_).trans (List.map_id t.hashes)
    have hm2 : m ∈ t.blobs.map hashOf := by rw [← hv.hashes]; exact hm
    obtain ⟨b, hb, he⟩ := List.mem_map.1 hm2
    show (takeOf (textOf m)).1 = m
    rw [← he]
    unfold hashOf
    rw [take_text_mark]
  have h8 : (eachI (blobI t)).map ItemD.text = t.blobs := by
    show (t.blobs.map leaf).map ItemD.text = t.blobs
    rw [List.map_map]
    exact List.map_id t.blobs
  rw [h7, h8]
  have f0 := hv.frm
  have f1 := hv.nonce
  have f6 := hv.gas
  have g0 : ((t.frm.toNat : Nat) : Int) = t.frm := Int.toNat_of_nonneg f0.1
  have g1 : ((t.nonce.toNat : Nat) : Int) = t.nonce := Int.toNat_of_nonneg f1.1
  have g6 : ((t.gas.toNat : Nat) : Int) = t.gas := Int.toNat_of_nonneg f6.1
  simp only [g0, g1, g6]
theorem read_tx {t : TxD} (h : t.ok) (hv : Valid t) : readTx (txItem t).items = some t := by
  show readTx [_, _, _, _, _, _, _, _, _] = _
  unfold readTx
  have b0 := takeU_bytes (n := t.frm.toNat) (lt_U40 (by have := hv.frm; omega))
  have b1 := takeU_bytes (n := t.nonce.toNat) (lt_U40 hv.nonce.2)
  have b6 := takeU_bytes (n := t.gas.toNat) (lt_U40 (by have := hv.gas; omega))
  have e : ∀ s : List UInt8, (leaf s).text = s := fun _ => rfl
  have hn : nums [numI t.frm.toNat, numI t.nonce.toNat, numI t.tip, numI t.cap, numI t.bcap, numI t.value, numI t.gas.toNat] = true := by
    unfold nums
    simp only [List.all_cons, List.all_nil, e, b0, b1, takeU_bytes h.tip, takeU_bytes h.cap, takeU_bytes h.bcap, takeU_bytes h.value, b6, Bool.and_self]
  simp only
  rw [if_pos hn, if_pos, fields_tx h hv]
  rw [e, e, e, b0, b1, b6]
  have f0 := hv.frm
  have f1 := hv.nonce
  have f6 := hv.gas
  unfold smallU
  simp only [Bool.and_eq_true, decide_eq_true_eq]
  omega
theorem parse_tx {t : TxD} (h : t.ok) (hv : Valid t) (r : List UInt8) : parse 0 (txRaw t ++ r) = .ok (txItem t, (txRaw t).length) := parse_raw (txItem t) 0 (tx_may h hv) r
theorem parseAll_tx {t : TxD} (h : t.ok) (hv : Valid t) : parseAll (txRaw t) = .ok (txItem t) := by
  have := parse_tx h hv []
  rw [List.append_nil] at this
  unfold parseAll
  rw [this]
  simp only
  rw [if_neg (by omega)]
theorem take_tx {t : TxD} (h : t.ok) (hv : validTx t = true) : takeTx (txRaw t) = some t := by
  unfold takeTx
  rw [parseAll_tx h (valid_of hv)]
  simp only
  rw [read_tx h (valid_of hv)]
  simp only
  rw [if_pos ⟨hv, trivial⟩]
theorem parseAll_ok {s : List UInt8} {it : ItemD} (h : parseAll s = .ok it) : parse 0 s = .ok (it, s.length) ∧ okI 0 it = true ∧ rawOf it = s ∧ it.wt ≤ 2 * s.length := by
  unfold parseAll at h
  cases hp : parse 0 s with
  | error e => rw [hp] at h; cases h
  | ok r =>
    obtain ⟨x, k⟩ := r
    rw [hp] at h
    simp only at h
    have hpo := parse_ok hp
    have hle := hpo.le
    split at h
    · cases h
    · cases h
      have hk : k = s.length := by omega
      subst hk
      exact ⟨rfl, hpo.may, by rw [hpo.raw, List.take_length], hpo.wt⟩
theorem nums_lt {x : ItemD} : (takeU x.text).1 < U := takeU_lt _
theorem readTx_ok {l : List ItemD} {t : TxD} (h : readTx l = some t) (hl : wts l ≤ 16777216) : t.ok := by
  unfold readTx at h
  split at h
  · rename_i x0 x1 x2 x3 x4 x5 x6 x7 x8
    split at h
    · split at h
      · rename_i h1 h2
        cases h
        unfold smallU at h2
        simp only [Bool.and_eq_true, decide_eq_true_eq] at h2
        have m7 := wts_mem (x := x7) (xs := [x0, x1, x2, x3, x4, x5, x6, x7, x8]) (by simp)
        have m8 := wts_mem (x := x8) (xs := [x0, x1, x2, x3, x4, x5, x6, x7, x8]) (by simp)
        rw [wt_eq] at m7 m8
        have e7 : (eachI x7).length ≤ 16777216 := by
          unfold eachI
          split
          · have := wts_len x7.items; omega
          · simp
        have e8 : (eachI x8).length ≤ 16777216 := by
          unfold eachI
          split
          · have := wts_len x8.items; omega
          · simp
        have f0 : ∀ n : Nat, n < 9223372036854775808 → -9223372036854775808 ≤ (n : Int) ∧ (n : Int) ≤ 9223372036854775807 := fun n h => by omega
        refine ⟨f0 _ h2.1.1, f0 _ h2.1.2, f0 _ h2.2, nums_lt, nums_lt, nums_lt, nums_lt, ?_, ?_, ?_⟩
        · show ((eachI x7).map _).length * 8 ≤ reachBytes
          rw [List.length_map]; unfold reachBytes; omega
        · show ((eachI x8).map _).length * 16 ≤ reachBytes
          rw [List.length_map]; unfold reachBytes; omega
        · intro b hb
          obtain ⟨x, hx, rfl⟩ := List.mem_map.1 (show b ∈ (eachI x8).map ItemD.text from hb)
          have : x ∈ x8.items := by
            unfold eachI at hx
            split at hx
            · exact hx
            · cases hx
          have := wts_mem this
          rw [wt_eq] at this
          unfold reachBytes; omega
      · cases h
    · cases h
  · cases h
theorem takeTx_some {s : List UInt8} {t : TxD} (hs : s.length ≤ 4194304) (h : takeTx s = some t) : t.ok ∧ validTx t = true ∧ txRaw t = s := by
  unfold takeTx at h
  cases hp : parseAll s with
  | error e => rw [hp] at h; cases h
  | ok it =>
    rw [hp] at h
    simp only at h
    obtain ⟨_, _, _, hw⟩ := parseAll_ok hp
    have hwe := wt_eq it
    cases hr : readTx it.items with
    | none => rw [hr] at h; cases h
    | some t2 =>
      rw [hr] at h
      simp only at h
      split at h
      · rename_i hv
        cases h
        exact ⟨readTx_ok hr (by omega), hv.1, hv.2⟩
      · cases h
theorem takeTx_cut {t : TxD} (h : t.ok) (hv : validTx t = true) {j : Nat} (hj : j < (txRaw t).length) : takeTx ((txRaw t).take j) = none := by
  have := parse_cut (txItem t) (tx_may h (valid_of hv)) hj
  unfold takeTx parseAll
  have h2 : parse 0 ((txRaw t).take j) = .error 7 := this
  rw [h2]
theorem takeTx_more {t : TxD} (h : t.ok) (hv : validTx t = true) (b : UInt8) (r : List UInt8) : takeTx (txRaw t ++ b :: r) = none := by
  unfold takeTx parseAll
  rw [parse_tx h (valid_of hv)]
  simp only
  rw [if_pos (by simp)]
end Go.Proofs.Ytdenldjlijoeoaa.VA
end
section
/- Items' bytes: how long, whether they may be. -/
namespace Go.Proofs.Ytdenldjlijoeoaa.VA
set_option maxRecDepth 10000
set_option linter.unusedSimpArgs false
set_option linter.unusedVariables false
set_option maxHeartbeats 1000000

def longK (d : Nat) (it : ItemD) : Nat :=
  if it.list = false then (if it.items ≠ [] ∨ it.text.length > 65536 then 0 else if aloneB it.text = true then 1 else it.text.length + aheadN it.text.length)
  else if it.text ≠ [] ∨ 16 ≤ d then 0
  else if okIs (d + 1) it.items = true ∧ (raws it.items).length ≤ 65536 then (raws it.items).length + aheadN (raws it.items).length else 0
theorem longK_ok {d : Nat} {it : ItemD} (h : okI d it = true) : longK d it = (rawOf it).length := by
  unfold longK
  cases hl : it.list with
  | false =>
    rw [okI_text d hl, Bool.and_eq_true, decide_eq_true_eq, List.isEmpty_iff] at h
    rw [if_pos rfl]
    obtain ⟨h1, h2⟩ := h
    have ht : ¬ it.text.length > 65536 := by
      rw [rawOf_text hl] at h2
      split at h2
      · rename_i ha; have := alone_len ha; omega
      · rw [List.length_append] at h2; omega
    rw [if_neg (by simp [h1, ht]), rawOf_text hl]
    split
    · rename_i ha; rw [alone_len ha]
    · rw [List.length_append, headB_len]; omega
  | true =>
    rw [okI_list d hl] at h
    simp only [Bool.and_eq_true, decide_eq_true_eq, List.isEmpty_iff] at h
    obtain ⟨⟨⟨h1, h2⟩, h3⟩, h4⟩ := h
    rw [if_neg (by simp), if_neg (by simp [h1]; omega), rawOf_list hl, List.length_append, headB_len]
    rw [rawOf_list hl, List.length_append] at h4
    rw [if_pos ⟨h3, by omega⟩]
    omega
theorem longK_le (d : Nat) (it : ItemD) : longK d it ≤ 65542 := by
  have h1 := @ahead_le it.text.length
  have h2 := @ahead_le (raws it.items).length
  unfold longK
  repeat' split
  all_goals omega
theorem c_item_long (it : ItemD) (h : it.ok) (d : Nat) (hd : d ≤ 16) : Contract Try.prog 56 [it.av, .int .i64 d] (.tup [.int .i64 (longK d it), .bool (okI d it)]) := by
  have ht := h.text
  have hn := h.num
  have hahead := ahead_le (n := it.text.length) (by omega)
  cases hl : it.list with
  | false =>
    refine contract_of (C := cf 91 [1, 2, 4, 5, 6, 7, 9, 10, 11, 12, 28, 37, 52, 60, 61, 62, 63, 64, 82] (fun _ => [])) (cf_ok _ _ _) (fn := Try.f56) Try.func56 (by kernel_rfl) rfl (by kernel_rfl) (by simp [cf]) (plain2 it.plain (.int _ _)) (by decide) (noCell (by kernel_rfl)) ?_
    have bad : ∀ {σ}, look σ.tmps 4 = some (.int .i64 0) → look σ.tmps 5 = some (.bool false) → longK d it = 0 → okI d it = false → BodyPost (cf 91 [1, 2, 4, 5, 6, 7, 9, 10, 11, 12, 28, 37, 52, 60, 61, 62, 63, 64, 82] (fun _ => [])) Try.f56.results.toList (.tup [.int .i64 (longK d it), .bool (okI d it)]) .ret σ := fun h1 h2 h3 h4 => by
      refine finTup ?_
      show resOf _ _ [.tmp 4, .tmp 5] = _
      rw [h3, h4]
      simp only [resOf, resAll, resOne, resCons, resTup, resTmp, h1, h2, AV.isImm, if_true]
      rfl
    simp only [go_sem, seval, ItemD.av_eq, ItemD.cells, hl, List.length_map]
    rcases Decidable.em (it.items = []) with hi | hi
    · rw [hi]
      simp only [go_sem, seval, Int.cast_ofNat_Int]
      rcases Decidable.em (it.text.length > 65536) with hx | hx
      · have e1 : decide ((it.text.length : Int) > 65536) = true := decide_eq_true (by omega)
        rw [e1]
        simp only [go_sem, seval]
        refine bad rfl rfl (by unfold longK; rw [if_pos hl, if_pos (.inr hx)]) ?_
        rw [okI_text d hl, hi, rawOf_text hl]
        rw [if_neg (fun ha => by have := alone_len ha; omega), List.length_append]
        rw [decide_eq_false (by omega)]; rfl
      · have e1 : decide ((it.text.length : Int) > 65536) = false := decide_eq_false (by omega)
        rw [e1]
        simp only [go_sem, seval, hl]
        refine ex_call (by exact c_item_alone it.text (by omega)) ?_
        simp only [go_sem, seval, hl]
        cases ha : aloneB it.text with
        | true =>
          have hk : longK d it = 1 := by unfold longK; rw [if_pos hl, if_neg (by simp [hi]; omega), if_pos ha]
          have ho : okI d it = true := by rw [okI_text d hl, hi, rawOf_text hl, if_pos ha, alone_len ha]; rfl
          rw [hk, ho]
          simp only [go_sem, seval]
          refine finTup ?_
          show resOf _ _ [.tmp 4, .tmp 5] = _
          simp only [go_sem, seval]
          try rfl
        | false =>
          have hk : longK d it = it.text.length + aheadN it.text.length := by unfold longK; rw [if_pos hl, if_neg (by simp [hi]; omega), if_neg (by rw [ha]; simp)]
          have ho : okI d it = decide (((it.text.length + aheadN it.text.length : Nat) : Int) ≤ 65536) := by
            rw [okI_text d hl, hi, rawOf_text hl, if_neg (by rw [ha]; simp), List.length_append, headB_len]
            rw [show ([] : List ItemD).isEmpty = true from rfl, Bool.true_and]
            exact decide_congr (by omega)
          have w : IntKind.i64.wrap ((it.text.length : Int) + (aheadN it.text.length : Int)) = ((it.text.length + aheadN it.text.length : Nat) : Int) := by rw [wi64 (by omega) (by omega)]; omega
          rw [hk, ho]
          simp only [go_sem, seval, hl]
          refine ex_draw [] [] (.quiet 0 (.quiet 1 (.quiet 2 (.quiet 3 (.quiet 4 (.quiet 5 (.one 6 (.quiet 7 (.quiet 8 (.fin)))))))))) (by kernel_rfl) ?_
          simp only [go_sem, seval]
          refine ex_call (by exact c_item_ahead it.text.length (by omega)) ?_
          simp only [go_sem, seval, w]
          refine finTup ?_
          show resOf _ _ [.tmp 4, .tmp 5] = _
          simp only [go_sem, seval]
    · have e1 : decide ((it.items.length : Int) > 0) = true := decide_eq_true (by
        have : it.items.length ≠ 0 := fun e => hi (List.eq_nil_of_length_eq_zero e)
        omega)
      rw [e1]
      simp only [go_sem, seval]
      refine bad rfl rfl (by unfold longK; rw [if_pos hl, if_pos (.inl hi)]) ?_
      rw [okI_text d hl]
      cases hq : it.items with
      | nil => exact absurd hq hi
      | cons a l => rfl
  | true =>
    have ih : ∀ x, x ∈ it.items → d + 1 ≤ 16 → Contract Try.prog 56 [x.av, .int .i64 (d + 1 : Nat)] (.tup [.int .i64 (longK (d + 1) x), .bool (okI (d + 1) x)]) := fun x hx hd1 => c_item_long x (h.all x hx) (d + 1) hd1
    refine contract_of (C := cf 91 [1, 2, 4, 5, 6, 7, 9, 10, 11, 12, 28, 37, 52, 60, 61, 62, 63, 64, 82] (fun _ => [])) (cf_ok _ _ _) (fn := Try.f56) Try.func56 (by kernel_rfl) rfl (by kernel_rfl) (by simp [cf]) (plain2 it.plain (.int _ _)) (by decide) (noCell (by kernel_rfl)) ?_
    have hkl : longK d it = if it.text ≠ [] ∨ 16 ≤ d then 0 else if okIs (d + 1) it.items = true ∧ (raws it.items).length ≤ 65536 then (raws it.items).length + aheadN (raws it.items).length else 0 := by
      unfold longK; rw [if_neg (by rw [hl]; simp)]
    have bad : ∀ {σ}, look σ.tmps 4 = some (.int .i64 0) → look σ.tmps 5 = some (.bool false) → longK d it = 0 → okI d it = false → BodyPost (cf 91 [1, 2, 4, 5, 6, 7, 9, 10, 11, 12, 28, 37, 52, 60, 61, 62, 63, 64, 82] (fun _ => [])) Try.f56.results.toList (.tup [.int .i64 (longK d it), .bool (okI d it)]) .ret σ := fun h1 h2 h3 h4 => by
      refine finTup ?_
      show resOf _ _ [.tmp 4, .tmp 5] = _
      rw [h3, h4]
      simp only [resOf, resAll, resOne, resCons, resTup, resTmp, h1, h2, AV.isImm, if_true]
      rfl
    simp only [go_sem, seval, ItemD.av_eq, ItemD.cells, hl, List.length_map]
    rcases Decidable.em (it.text = []) with htx | htx
    · rw [htx]
      rcases Decidable.em (16 ≤ d) with hd1 | hd1
      · have e1 : decide ((d : Int) ≥ 16) = true := decide_eq_true (by omega)
        simp only [go_sem, seval, e1, hl]
        refine bad rfl rfl (by rw [hkl, if_pos (.inr hd1)]) ?_
        rw [okI_list d hl, decide_eq_false (show ¬ d < 16 by omega)]; simp
      · have e1 : decide ((d : Int) ≥ 16) = false := decide_eq_false (by omega)
        have hk : longK d it = if okIs (d + 1) it.items = true ∧ (raws it.items).length ≤ 65536 then (raws it.items).length + aheadN (raws it.items).length else 0 := by
          rw [hkl, if_neg (by simp [htx]; omega)]
        have ho : okI d it = (okIs (d + 1) it.items && decide ((rawOf it).length ≤ 65536)) := by
          rw [okI_list d hl, htx, decide_eq_true (show d < 16 by omega)]; simp
        have hrl : (rawOf it).length = (raws it.items).length + aheadN (raws it.items).length := by rw [rawOf_list hl, List.length_append, headB_len]; omega
        have w1 : IntKind.i64.wrap ((d : Int) + 1) = ((d + 1 : Nat) : Int) := wi64_nat d (by omega)
        simp only [go_sem, seval, e1, hl, List.length_map]
        refine ex_iter [1, 2, 7, 60, 61, 62, 63] (fun i : Nat => ⟨[(1, .int .i64 d), (2, .var 2 0), (7, .int .i64 (raws (it.items.take i)).length), (60, .var 2 2), (61, .sl false 3 (it.items.map ItemD.av)), (62, .int .i64 it.items.length), (63, .int .i64 i)], [(2, [.bool true, .str [], .sl false 3 (it.items.map ItemD.av)])]⟩)
          (fun i => i ≤ it.items.length ∧ okIs (d + 1) (it.items.take i) = true ∧ (raws (it.items.take i)).length ≤ 65536) (fun i => it.items.length - i) 0 ?_ ?_ ?_
        · simp only [ASt.keep, consIf, keepL, keepV, AV.isBot, List.contains_cons, List.contains_nil, Nat.reduceBEq, Bool.or_false, Bool.false_or, Bool.or_true, Bool.true_or, beq_self_eq_true, Bool.false_eq_true, ↓reduceIte, if_false, if_true]
          rfl
        · exact ⟨Nat.zero_le _, by rw [List.take_zero, okIs_nil], by rw [List.take_zero, raws_nil]; simp⟩
        · rintro r i ⟨hi, hok, hlen⟩ next
          simp only [go_sem, seval]
          refine ex_br (fun hc => ?_) (fun hc => ?_)
          · have hlt : i < it.items.length := by simpa using hc
            obtain ⟨x, ex⟩ : ∃ x, it.items[i]? = some x := ⟨_, List.getElem?_eq_getElem hlt⟩
            have hm := List.mem_of_getElem? ex
            have hx := ih x hm (by omega)
            rw [ItemD.av_eq] at hx
            have hkx := longK_le (d + 1) x
            have hsnoc : it.items.take (i + 1) = it.items.take i ++ [x] := by rw [List.take_add_one, ex]; rfl
            have hraw : raws (it.items.take (i + 1)) = raws (it.items.take i) ++ rawOf x := by rw [hsnoc, raws_append, raws_cons, raws_nil, List.append_nil]
            have hok2 : okI (d + 1) x = true → okIs (d + 1) (it.items.take (i + 1)) = true := fun hox => by
              rw [hsnoc]
              refine okIs_all fun y hy => ?_
              rcases List.mem_append.1 hy with hy | hy
              · exact okIs_mem hok y hy
              · rw [List.mem_singleton.1 hy]; exact hox
            have w2 : IntKind.i64.wrap (((raws (it.items.take i)).length : Int) + (longK (d + 1) x : Int)) = (((raws (it.items.take i)).length + longK (d + 1) x : Nat) : Int) := by rw [wi64 (by omega) (by omega)]; omega
            cases hox : okI (d + 1) x with
            | true =>
              have hkk := longK_ok hox
              rw [hox, hkk] at hx
              rw [hkk] at w2
              rcases Decidable.em ((raws (it.items.take i)).length + (rawOf x).length > 65536) with hg | hg
              · have e2 : decide ((((raws (it.items.take i)).length + (rawOf x).length : Nat) : Int) > 65536) = true := decide_eq_true (by omega)
                simp only [go_sem, seval, List.length_map, List.getElem?_map, ex, Int.toNat_natCast, ItemD.av_eq, ItemD.cells]
                repeat with_reducible refine And.intro (by first | omega | (simp only [List.length_cons, List.length_append, List.length_nil, List.length_map, List.length_take, List.length_drop, List.length_set]; omega)) ?_
                try simp only [go_sem, seval, ItemD.cells, w1]
                refine ex_call (by exact hx) ?_
                simp only [go_sem, seval, w2, e2]
                have hbig : ¬ (raws it.items).length ≤ 65536 := by
                  have e3 : raws it.items = raws (it.items.take (i + 1)) ++ raws (it.items.drop (i + 1)) := by rw [← raws_append, List.take_append_drop]
                  rw [e3, List.length_append, hraw, List.length_append]
                  omega
                refine bad rfl rfl (by rw [hk, if_neg (fun h => hbig h.2)]) ?_
                rw [ho, decide_eq_false (by omega)]; simp
              · have e2 : decide ((((raws (it.items.take i)).length + (rawOf x).length : Nat) : Int) > 65536) = false := decide_eq_false (by omega)
                simp only [go_sem, seval, List.length_map, List.getElem?_map, ex, Int.toNat_natCast, ItemD.av_eq, ItemD.cells]
                repeat with_reducible refine And.intro (by first | omega | (simp only [List.length_cons, List.length_append, List.length_nil, List.length_map, List.length_take, List.length_drop, List.length_set]; omega)) ?_
                try simp only [go_sem, seval, ItemD.cells, w1]
                refine ex_call (by exact hx) ?_
                simp only [go_sem, seval, w2, e2]
                refine next (i + 1) _ ⟨by omega, hok2 hox, by rw [hraw, List.length_append]; omega⟩ (by omega) ?_
                rw [hraw, List.length_append, ← wi64_nat i (by omega)]
                simp only [ASt.keep, consIf, keepL, keepV, AV.isBot, List.contains_cons, List.contains_nil, Nat.reduceBEq, Bool.or_false, Bool.false_or, Bool.or_true, Bool.true_or, beq_self_eq_true, Bool.false_eq_true, ↓reduceIte, if_false, if_true]
            | false =>
              rw [hox] at hx
              simp only [go_sem, seval, List.length_map, List.getElem?_map, ex, Int.toNat_natCast, ItemD.av_eq, ItemD.cells]
              repeat with_reducible refine And.intro (by first | omega | (simp only [List.length_cons, List.length_append, List.length_nil, List.length_map, List.length_take, List.length_drop, List.length_set]; omega)) ?_
              try simp only [go_sem, seval, ItemD.cells, w1]
              refine ex_call (by exact hx) ?_
              simp only [go_sem, seval, w2]
              have hbad : okIs (d + 1) it.items = false := by
                cases hq : okIs (d + 1) it.items with
                | false => rfl
                | true => rw [okIs_mem hq x hm] at hox; cases hox
              refine bad rfl rfl (by rw [hk, if_neg (fun h => by rw [hbad] at h; cases h.1)]) ?_
              rw [ho, hbad]; rfl
          · have hge : i = it.items.length := by simp at hc; omega
            subst hge
            rw [List.take_length] at hok hlen ⊢
            have hah := ahead_le (n := (raws it.items).length) (by omega)
            have w3 : IntKind.i64.wrap (((raws it.items).length : Int) + (aheadN (raws it.items).length : Int)) = (((raws it.items).length + aheadN (raws it.items).length : Nat) : Int) := by rw [wi64 (by omega) (by omega)]; omega
            rw [hk, if_pos ⟨hok, hlen⟩, ho, hok, Bool.true_and, hrl]
            simp only [go_sem, seval]
            refine ex_call (by exact c_item_ahead (raws it.items).length (by omega)) ?_
            have e3 : decide ((((raws it.items).length + aheadN (raws it.items).length : Nat) : Int) ≤ 65536) = decide ((raws it.items).length + aheadN (raws it.items).length ≤ 65536) := decide_congr (by omega)
            simp only [go_sem, seval, w3, e3]
            refine finTup ?_
            show resOf _ _ [.tmp 4, .tmp 5] = _
            simp only [go_sem, seval]
    · have e1 : (it.text == ([] : List UInt8)) = false := by simpa using htx
      rw [e1]
      simp only [go_sem, seval, hl]
      refine bad rfl rfl (by rw [hkl, if_pos (.inl htx)]) ?_
      rw [okI_list d hl]
      cases hq : it.text with
      | nil => exact absurd hq htx
      | cons a l => rfl
termination_by SizeOf.sizeOf it
decreasing_by exact item_lt hx
end Go.Proofs.Ytdenldjlijoeoaa.VA
end
section
/- Functions that hand values to a loop: laws for their walks. -/
namespace Go.Proofs.Ytdenldjlijoeoaa.VA
set_option linter.unusedVariables false
section
variable {F : Fx} {I : Imm} {own : Nat → Option Loc} {σ : ASt} {a : Act} {w : World} {C : Cfg} {K : ASt → Prop} {Q : Exit → Act → World → Prop}

theorem spo_of (hC : F.C = C) (hns : ∀ f, C.spc f = false) : F.spo := fun ⟨f, e⟩ => by rw [hC, hns f] at e; cases e
theorem reg_in (hok : CfgOk C) {id : Nat} {ops : Array Oper} (hnd : noDeferB ops = true) (hC : F.C = C) (hop : F.open) (h : RI F I own σ a w) (hw : aops C ops.toList K ops.toList σ) (hL : ¬ LetsOut Q) (hQ : ∀ a w, Post F K a w → Q .normal a w) (hns : ∀ f, C.spc f = false := by exact fun _ => rfl) :
    (Code.region id ops false).wpIn (fen none) 0 C.P Q a w := region_in (noDefer_of hnd) hL (aops_ok hC hok hop (spo_of hC hns) hQ ops.toList σ I own a w h hw)
/-- One operation of a region. -/
theorem op_in (hok : CfgOk C) {ops : List Oper} {rest : List Oper} {o : Oper} (hd : ∀ c, o.op ≠ .defer c) (hC : F.C = C) (hop : F.open) (h : RI F I own σ a w) (hw : aops C ops K [o] σ)
    (hn : ∀ a w, Post F K a w → wpListIn (fen none) 0 C.P ops.toArray Q rest a w) (hns : ∀ f, C.spc f = false := by exact fun _ => rfl) : wpListIn (fen none) 0 C.P ops.toArray Q (o :: rest) a w := by
  have hs := step_ok (Q := Q) (ops := ops.toArray) (K := K) hC hok (fun τ _ => OkLk.of_open hop (spo_of hC hns) τ o) h hw
  unfold wpListIn
  split
  · rename_i hwd
    exact Oper.wpIn_mono hn (oper_in hd (hs.1 hwd))
  · rename_i hwd
    exact ⟨fun _ _ => trivial, hn _ _ (hs.2 (by simpa using hwd))⟩
/-- A call of yield. -/
theorem yield_in {P : Program} {ops : Array Oper} {rest : List Oper} {o : Oper} (hg : o.guard = none) {x y : Operand} {T : TypeId} (hop : o.op = .call { callee := .value x, args := #[y], argTypes := #[T] })
    {l : Nat} (hx : a.eval x = .func (.yield l) #[] #[]) {R : Bool → World → Prop} (hr : RoundW P l (a.eval y) w R) (hn : ∀ b w', R b w' → wpListIn (fen none) 0 P ops Q rest (a.put o.dst (.bool b)) w') :
    wpListIn (fen none) 0 P ops Q (o :: rest) a w := by
  obtain ⟨f, tmps, assign, body, h1, h2⟩ := hr
  have hrun : (o.semAt none a.eval).run P w = .ok (.round l f tmps assign body) w := by
    rw [Oper.semAt_none]
    unfold execOp
    rw [hop]
    generalize a.eval = ρ at hx h1 ⊢
    simp [resolve, invoke, hx, go_sem, h1]
  unfold wpListIn
  rw [if_pos (by simp [Region.wanted, hg])]
  refine ⟨fun _ _ => trivial, ?_⟩
  show o.uponIn (fen none) 0 P a _ Q ((o.semAt none a.eval).run P w)
  rw [hrun]
  refine ⟨fun e => (Bool.false_ne_true e).elim, RoundIn.mono h2 fun e w' he => ?_⟩
  obtain ⟨b, rfl, hb⟩ := he
  exact hn b w' hb

/-- The base of a walk from here on: nothing that lies is turned. -/
def bare (C : Cfg) (w : World) (I : Imm) : Fx := ⟨C, w, I, fun _ => False, fun _ => false, fun _ => False, [], #[], fun _ => True⟩
theorem bare_fix (hfix : C.fix = []) {t : Nat} (e : (bare C w I).C.fix.contains t = true) : False := by
  have e : C.fix.contains t = true := e
  rw [hfix] at e
  cases e
theorem bare_open : (bare C w I).open := ⟨fun _ => rfl, fun _ h => h⟩
theorem RI.nil (hI : Imm.ok I w) (hfix : C.fix = []) (hs : a.tmps.size = C.n) (hd : a.defers = []) : RI (bare C w I) I (fun _ => none) ⟨[], []⟩ a w where
  imm := hI
  base := Imm.leRefl I
  inew := fun _ _ _ h => .inl h
  fr := fr_refl _ _
  mko := fun _ _ => trivial
  mine := fun _ _ h => by cases h
  defs := ⟨hd, fun t e => (bare_fix hfix e).elim⟩
  size := hs
  slots := fun l x hx => by cases l <;> cases hx
  boxes := fun k cs hk => by cases hk
  quiet := fun l x hx => by cases l <;> cases hx
  lk := ⟨fun b hb => hb.elim, fun k e => by cases e⟩
/-- Temporaries that never change any more, in a later world. -/
theorem RI.fresh {F0 : Fx} {I0 : Imm} {w0 : World} (h : RI F0 I0 own σ a w0) (hn : F0.C.n = C.n) (hfix : C.fix = []) (hds : F0.ds = []) {a2 : Act} (hs : a2.tmps.size = C.n) (hd : a2.defers = []) (hle : Imm.le I0 I) (hI : Imm.ok I w) (tm : List (Nat × AV))
    (ht : ∀ t x, look tm t = some x → look σ.tmps t = some x ∧ x.isImm = true ∧ a2.tmps[t]? = a.tmps[t]?) : RI (bare C w I) I (fun _ => none) ⟨tm, []⟩ a2 w := by
  refine (RI.nil (a := a2) hI hfix hs hd).make bare_open tm (fun _ _ e => by cases e) (fun _ _ e => by cases e) hs ⟨hd, fun t e => (bare_fix hfix e).elim⟩ (fun k cs e => by cases e) fun t x hx => ?_
  obtain ⟨h1, h2, h3⟩ := ht t x hx
  obtain ⟨v, e1, e2⟩ := h.slots (.tmp t) x h1
  exact ⟨v, h3.trans e1, .inr (.inl ⟨h2, ((srep_imm h2).1 e2).mono (fun _ _ => trivial) hle⟩)⟩
theorem RI.rstep {I2 : Imm} {w2 : World} (h : RI (bare C w I) I2 own σ a w2) : RStep w I [] w2 I2 [] :=
  ⟨⟨h.fr.os, h.fr.tape, h.fr.output, h.fr.size, fun k hk _ => h.fr.block k hk id, h.fr.new⟩, h.base, h.imm, fun b o u e => by
    rcases h.inew b o u e with q | q | q
    · exact .inl q
    · exact .inr (.inl q)
    · exact q.elim, fun g hg => by cases hg⟩
end
end Go.Proofs.Ytdenldjlijoeoaa.VA
end
section
/- Each: a function that hands an item's items to a loop. -/
namespace Go.Proofs.Ytdenldjlijoeoaa.VA
set_option maxRecDepth 10000
set_option linter.unusedSimpArgs false
set_option linter.unusedVariables false
set_option maxHeartbeats 400000

theorem c_Each (it : ItemD) : Contract Try.prog 42 [it.av] (.ext (cloP 58 it.cells)) := by
  refine contract_of (C := cf 4 [1, 2] (fun _ => [])) (cf_ok _ _ _) (fn := Try.f42) Try.func42 (by kernel_rfl) rfl (by kernel_rfl) (by simp [cf]) (plain1 it.plain) (by decide) (noCell (by kernel_rfl)) ?_
  simp only [go_sem, ↓reduceIte, Nat.reduceLT, Nat.reduceLeDiff, Nat.reduceAdd, Nat.reduceSub, Nat.reduceMul, Nat.reduceEqDiff, Nat.reduceBEq, Nat.reduceMod, Nat.reduceDiv, Int.reduceToNat, reduceCtorEq, Int.reduceLT, Int.reduceLE, Int.reduceGT, Int.reduceGE, Int.reduceAdd, Int.reduceSub, Int.reduceMul, Int.reduceNeg, Int.reduceEq, Int.reduceNe, Int.reduceBNe, Int.reduceBEq, Int.reduceDiv, ItemD.av_eq, ItemD.cells]
  refine finOne ?_ (fun _ e => by cases e)
  show resOf _ _ [.tmp 2] = _
  simp only [go_sem, ↓reduceIte, Nat.reduceLT, Nat.reduceLeDiff, Nat.reduceAdd, Nat.reduceSub, Nat.reduceMul, Nat.reduceEqDiff, Nat.reduceBEq, Nat.reduceMod, Nat.reduceDiv, Int.reduceToNat, reduceCtorEq, Int.reduceLT, Int.reduceLE, Int.reduceGT, Int.reduceGE, Int.reduceAdd, Int.reduceSub, Int.reduceMul, Int.reduceNeg, Int.reduceEq, Int.reduceNe, Int.reduceBNe, Int.reduceBEq, Int.reduceDiv]
/-- What Each hands over. -/
def eachOf (it : ItemD) : List AV := if it.list = true then it.items.map ItemD.av else []
/-- The value of yield. -/
def yP (l : Nat) : Imm → Value → Prop := fun _ v => v = .func (.yield l) #[] #[]
def eachTm (l : Nat) (it : ItemD) (i : Nat) : List (Nat × AV) := [(0, .ext (yP l)), (9, .sl false 3 (it.items.map ItemD.av)), (10, .int .i64 it.items.length), (11, .int .i64 i)]
theorem put_same {a : Act} {t : Nat} {v : Value} (h : a.tmps[t]? = some v) : a.put (some t) v = a := by
  cases a with
  | mk tmps defers =>
    show Act.mk (tmps.setIfInBounds t v) defers = Act.mk tmps defers
    congr 1
    refine Array.ext_getElem? fun i => ?_
    by_cases e : t = i
    · subst e
      have hlt := (Array.getElem?_eq_some_iff.1 h).1
      rw [Array.getElem?_setIfInBounds_self_of_lt hlt]
      exact h.symm
    · rw [Array.getElem?_setIfInBounds_ne e]
theorem eval_tmp {a : Act} {t : Nat} {v : Value} (h : a.tmps[t]? = some v) : a.eval (.tmp t) = v := by
  simp [Act.eval, h]
section
variable {F : Fx} {I : Imm} {own : Nat → Option Loc} {σ : ASt} {a : Act} {w : World}
theorem RI.bool (h : RI F I own σ a w) {t : Nat} {b : Bool} (hl : look σ.tmps t = some (.bool b)) : a.eval (.tmp t) = .bool b := by
  obtain ⟨v, h1, h2⟩ := h.slots (.tmp t) _ hl
  have h2 := (srep_imm rfl).1 h2
  cases h2
  exact eval_tmp h1
theorem RI.val (h : RI F I own σ a w) {t : Nat} {x : AV} (hi : x.isImm = true) (hl : look σ.tmps t = some x) : AR F.mo I x (a.eval (.tmp t)) := by
  obtain ⟨v, h1, h2⟩ := h.slots (.tmp t) _ hl
  rw [eval_tmp h1]
  exact (srep_imm hi).1 h2
end
theorem plainVs_one {k : Nat} {cs : List AV} (h : ∀ c, c ∈ cs → c.plainV) : plainVs [(k, cs)] := fun j ds hj c hc => by
  simp only [look] at hj
  split at hj
  · cases hj; exact h c hc
  · cases hj
theorem all_nil : ∀ c, c ∈ ([] : List AV) → c.plainV := fun c hc => by cases hc
theorem all_cons {x : AV} {xs : List AV} (h : x.plainV) (hx : ∀ c, c ∈ xs → c.plainV) : ∀ c, c ∈ x :: xs → c.plainV := fun c hc => by
  rcases List.mem_cons.1 hc with rfl | hc
  · exact h
  · exact hx c hc
theorem plainV_of {x : AV} (h : Plain x) : x.plainV := by
  cases x <;> first | exact h | trivial
theorem look_cons {α : Type} {t k : Nat} {x y : α} {r : List (Nat × α)} (h : look ((k, y) :: r) t = some x) : (t = k ∧ x = y) ∨ look r t = some x := by
  unfold look at h
  split at h
  · rename_i e
    cases h
    exact .inl ⟨(by simpa using e), rfl⟩
  · exact .inr h
noncomputable def CE : Cfg := cf 21 [0, 4, 7, 9, 10, 11, 12, 15, 16, 17, 18, 19] (fun _ => [])
theorem iter_each (it : ItemD) (h : it.ok) : Iter Try.prog (cloP 58 it.cells) (eachOf it) := by
  rintro J v ⟨b, rfl, har⟩
  refine ⟨_, _, rfl, fun args w => by simp [go_sem], ?_⟩
  intro l Inv Stop gs I w hI hJ hgs h0 hstep hsstop hround
  have hlen := h.len
  unfold reachBytes at hlen
  have hok : CfgOk CE := cf_ok _ _ _
  have hfix : CE.fix = [] := rfl
  have hn : CE.n = 21 := rfl
  have hP : CE.P = Try.prog := rfl
  refine callsIn_wide.1 (callsIn_of_wp (F := Fence.wide) (n := 0) Try.func58 rfl trivial ?_)
  obtain ⟨R, hR⟩ : ∃ R : Ending → World → Prop, R = fun e w' => ∃ v gs I, e = .returned v ∧ (Inv (eachOf it).length gs I w' ∨ Stop gs I w') := ⟨_, rfl⟩
  rw [← hR]
  obtain ⟨Q, hQ⟩ : ∃ Q, Q = bodyPost Try.prog Try.f58 R := ⟨_, rfl⟩
  rw [← hQ]
  have hout : ∀ a w, ¬ Q .outgrown a w := fun a w e => by
    rw [hQ] at e
    have e : R .outgrown w := e
    rw [hR] at e
    obtain ⟨_, _, _, e, _⟩ := e
    cases e
  have hL0 : ¬ LetsOut Q := fun ⟨a, w, e⟩ => hout a w e
  have fin : ∀ (a : Act) (W : World) gs I', a.defers = [] → (Inv (eachOf it).length gs I' W ∨ Stop gs I' W) → (a.defers = [] ∧ ∃ v, (results Try.f58 a.tmps).run Try.prog W = .ok v W ∧ R (.returned v) W) := fun a W gs I' hd hi =>
    ⟨hd, .tuple #[], run_results (us := []) (by simp [go_sem]), by rw [hR]; exact ⟨_, gs, I', rfl, hi⟩⟩
  have finR : ∀ (a : Act) (W : World) gs I', a.defers = [] → (Inv (eachOf it).length gs I' W ∨ Stop gs I' W) → Q .ret a W := fun a W gs I' hd hi => by rw [hQ]; exact fin a W gs I' hd hi
  have finN : ∀ (a : Act) (W : World) gs I', a.defers = [] → (Inv (eachOf it).length gs I' W ∨ Stop gs I' W) → Q .normal a W := fun a W gs I' hd hi => by rw [hQ]; exact fin a W gs I' hd hi
  clear hQ
  obtain ⟨slv, hslv⟩ : ∃ slv : AV, slv = .sl false 3 [.agg it.cells] := ⟨_, rfl⟩
  have har2 : AR (fun _ => True) I (.sl false 3 [.agg it.cells]) (.slice (some ⟨b, 0, none⟩) 1 1) := (har : AR (fun _ => True) J (.sl false 3 [.agg it.cells]) _).mono (fun _ h => h) hJ
  -- the begin
  obtain ⟨yv, hyv⟩ : ∃ yv : Value, yv = .func (.yield l) #[] #[] := ⟨_, rfl⟩
  obtain ⟨pv, hpv⟩ : ∃ pv : Value, pv = .pointer (some ⟨b, 0, none⟩) := ⟨_, rfl⟩
  rw [← hyv, ← hpv]
  rw [show Try.f58.ntmps - (#[yv] ++ #[pv] : Array Value).size = 19 from by simp]
  obtain ⟨A, hA⟩ : ∃ A : Array Value, A = #[yv] ++ #[pv] ++ Array.replicate 19 undef := ⟨_, rfl⟩
  have hA0 : A[0]? = some yv := by rw [hA]; simp
  have hA1 : A[1]? = some pv := by rw [hA]; simp
  have hAs : A.size = CE.n := by rw [hA, hn]; simp
  rw [← hA]
  have hst : RI (bare CE w I) I (fun _ => none) ⟨[(0, .ext (yP l)), (1, .elt (.sl false 3 [.agg it.cells]) 0 0)], []⟩ { tmps := A, defers := [] } w := by
    have e0 := RI.nil (C := CE) (a := { tmps := A, defers := [] }) hI hfix hAs rfl
    have hm : ∀ t, t < 21 → (bare CE w I).C.may t = true := fun t ht => by
      show (decide (t < CE.n) && !CE.fix.contains t) = true
      rw [hfix, hn]; simp [ht]
    have e1 := e0.put (t := 0) (x := .ext (yP l)) (v := yv) (hm 0 (by decide)) rfl (fun _ _ _ e => by cases e) (fun _ e => by cases e) ((srep_imm rfl).2 (.ext _ I _ (fun _ _ _ e => e) (by rw [hyv]; rfl) hyv))
    rw [put_same hA0] at e1
    have e2 := e1.put (t := 1) (x := .elt (.sl false 3 [.agg it.cells]) 0 0) (v := pv) (hm 1 (by decide)) rfl (fun _ _ _ e => by cases e) (fun _ e => by cases e) ⟨b, 0, 1, 1, har2, hpv⟩
    rw [put_same hA1] at e2
    exact e2
  refine wpIn_seq (wpIn_seq ?_)
  refine reg_in (C := CE) (K := fun τ => τ = ⟨[(0, .ext (yP l)), (1, .elt (.sl false 3 [.agg it.cells]) 0 0), (5, .elt (.sl false 3 [.agg it.cells]) 0 0), (6, .bool it.list), (7, .bool (!it.list))], []⟩) hok (by kernel_rfl) rfl bare_open hst ?_ (fun ⟨a, w, e⟩ => hout a w e) ?_
  · show exec CE (fun _ τ => τ = _) [.ops _ _] .normal _
    simp only [go_sem, ↓reduceIte, Nat.reduceLT, Nat.reduceLeDiff, Nat.reduceAdd, Nat.reduceSub, Nat.reduceMul, Nat.reduceEqDiff, Nat.reduceBEq, Nat.reduceMod, Nat.reduceDiv, Int.reduceToNat, reduceCtorEq, Int.reduceLT, Int.reduceLE, Int.reduceGT, Int.reduceGE, Int.reduceAdd, Int.reduceSub, Int.reduceMul, Int.reduceNeg, Int.reduceEq, Int.reduceNe, Int.reduceBNe, Int.reduceBEq, Int.reduceDiv, CE, ItemD.cells]
  rintro a1 w1 ⟨I1, own1, τ, q1, rfl⟩
  have hd1 : a1.defers = [] := q1.defs.1
  show Code.wpIn _ _ _ _ _ a1 w1
  cases hl : it.list with
  | false =>
    refine wpIn_cond_true (by rw [q1.bool (t := 7) rfl, hl]; rfl) (wpIn_ret ?_)
    refine finR a1 w1 gs I1 hd1 (.inl ?_)
    rw [show (eachOf it).length = 0 by unfold eachOf; rw [hl]; rfl]
    exact hstep 0 gs I w I1 w1 h0 q1.rstep
  | true =>
    have heach : eachOf it = it.items.map ItemD.av := by unfold eachOf; rw [hl]; rfl
    have hel : (eachOf it).length = it.items.length := by rw [heach, List.length_map]
    refine wpIn_cond_false (by rw [q1.bool (t := 7) rfl, hl]; rfl) (wpIn_skip ?_)
    show Code.wpIn _ _ _ _ _ a1 w1
    refine wpIn_seq ?_
    refine reg_in (C := CE) (K := fun τ => look τ.tmps 0 = some (.ext (yP l)) ∧ look τ.tmps 9 = some (.sl false 3 (it.items.map ItemD.av)) ∧ look τ.tmps 10 = some (.int .i64 it.items.length) ∧ look τ.tmps 11 = some (.int .i64 (0 : Nat))) hok (by kernel_rfl) rfl bare_open q1 ?_ (fun ⟨a, w, e⟩ => hout a w e) ?_
    · show exec CE (fun _ τ => look τ.tmps 0 = some (.ext (yP l)) ∧ look τ.tmps 9 = some (.sl false 3 (it.items.map ItemD.av)) ∧ look τ.tmps 10 = some (.int .i64 it.items.length) ∧ look τ.tmps 11 = some (.int .i64 (0 : Nat))) [.ops _ _] .normal _
      simp only [go_sem, ↓reduceIte, Nat.reduceLT, Nat.reduceLeDiff, Nat.reduceAdd, Nat.reduceSub, Nat.reduceMul, Nat.reduceEqDiff, Nat.reduceBEq, Nat.reduceMod, Nat.reduceDiv, Int.reduceToNat, reduceCtorEq, Int.reduceLT, Int.reduceLE, Int.reduceGT, Int.reduceGE, Int.reduceAdd, Int.reduceSub, Int.reduceMul, Int.reduceNeg, Int.reduceEq, Int.reduceNe, Int.reduceBNe, Int.reduceBEq, Int.reduceDiv, CE, ItemD.cells, List.length_map, Int.cast_ofNat_Int]
    rintro a2 w2 ⟨I2, own2, τ, q2, k0, k9, k10, k11⟩
    have heads : ∀ (i : Nat) (a : Act) (w' w0 : World) (I' I0 : Imm) (own : Nat → Option Loc) (τ : ASt), RI (bare CE w0 I0) I' own τ a w' → look τ.tmps 0 = some (.ext (yP l)) → look τ.tmps 9 = some (.sl false 3 (it.items.map ItemD.av)) → look τ.tmps 10 = some (.int .i64 it.items.length) →
        look τ.tmps 11 = some (.int .i64 (i : Nat)) → RI (bare CE w' I') I' (fun _ => none) ⟨eachTm l it i, []⟩ a w' := by
      intro i a w' w0 I' I0 own τ q k0 k9 k10 k11
      refine q.fresh (C := CE) rfl hfix rfl q.size q.defs.1 (Imm.leRefl _) q.imm _ fun t x hx => ?_
      unfold eachTm at hx
      rcases look_cons hx with ⟨rfl, rfl⟩ | hx
      · exact ⟨k0, rfl, rfl⟩
      rcases look_cons hx with ⟨rfl, rfl⟩ | hx
      · exact ⟨k9, rfl, rfl⟩
      rcases look_cons hx with ⟨rfl, rfl⟩ | hx
      · exact ⟨k10, rfl, rfl⟩
      rcases look_cons hx with ⟨rfl, rfl⟩ | hx
      · exact ⟨k11, rfl, rfl⟩
      cases hx
    have hst2 := heads 0 a2 w2 w I2 I own2 τ q2 k0 k9 k10 k11
    have hI2 : Inv 0 gs I2 w2 := hstep 0 gs I w I2 w2 h0 q2.rstep
    have hg2 : ∀ g, g ∈ gs → g < w2.heap.size := fun g hg => Nat.lt_of_lt_of_le (hgs g hg) q2.fr.size
    clear q2 k0 k9 k10 k11 hst q1
    show Code.wpIn _ _ _ _ _ a2 w2
    refine wpIn_block (wpIn_loop_rounds (it.items.length + 1) ?_)
    refine (fun key => key _ 0 gs I2 a2 w2 (by omega) (Nat.zero_le _) hst2 hI2 hg2 : (∀ m i gs I' a w', it.items.length + 1 - i ≤ m → i ≤ it.items.length → RI (bare CE w' I') I' (fun _ => none) ⟨eachTm l it i, []⟩ a w' → Inv i gs I' w' → (∀ g, g ∈ gs → g < w'.heap.size) → Code.roundsIn _ _ _ _ _ m a w') → _) ?_
    intro m
    induction m with
    | zero => intro i gs I' a w' h1 h2; omega
    | succ m ih =>
      intro i gs I' a w' h1 h2 q hi hg
      rw [roundsIn_succ]
      refine wpIn_seq (reg_in (C := CE) (K := fun τ => τ = ⟨[(0, .ext (yP l)), (9, .sl false 3 (it.items.map ItemD.av)), (10, .int .i64 it.items.length), (11, .int .i64 i), (12, .bool (decide ((i : Int) < it.items.length)))], []⟩) hok (by kernel_rfl) rfl bare_open q ?_ (fun ⟨a, w, e⟩ => hout a w e) ?_)
      · show exec CE (fun _ τ => τ = _) [.ops _ _] .normal _
        unfold eachTm
        simp only [go_sem, ↓reduceIte, Nat.reduceLT, Nat.reduceLeDiff, Nat.reduceAdd, Nat.reduceSub, Nat.reduceMul, Nat.reduceEqDiff, Nat.reduceBEq, Nat.reduceMod, Nat.reduceDiv, Int.reduceToNat, reduceCtorEq, Int.reduceLT, Int.reduceLE, Int.reduceGT, Int.reduceGE, Int.reduceAdd, Int.reduceSub, Int.reduceMul, Int.reduceNeg, Int.reduceEq, Int.reduceNe, Int.reduceBNe, Int.reduceBEq, Int.reduceDiv, CE]
      rintro a3 w3 ⟨I3, own3, τ, q3, rfl⟩
      have hd3 : a3.defers = [] := q3.defs.1
      have hi3 : Inv i gs I3 w3 := hstep i gs I' w' I3 w3 hi q3.rstep
      have hg3 : ∀ g, g ∈ gs → g < w3.heap.size := fun g h => Nat.lt_of_lt_of_le (hg g h) q3.fr.size
      refine wpIn_seq ?_
      rcases Decidable.em (i < it.items.length) with hlt | hge
      case inr =>
        have e : i = it.items.length := by omega
        subst e
        refine wpIn_cond_false (by rw [q3.bool (t := 12) rfl]; simp) (wpIn_exit ?_)
        exact finN a3 w3 gs I3 hd3 (.inl (by rw [hel]; exact hi3))
      obtain ⟨x, ex⟩ : ∃ x, it.items[i]? = some x := ⟨_, List.getElem?_eq_getElem hlt⟩
      have hxo := h.all x (List.mem_of_getElem? ex)
      refine wpIn_cond_true (by rw [q3.bool (t := 12) rfl]; simp [hlt]) (wpIn_skip ?_)
      refine wpIn_seq (wpIn_block ?_)
      refine wpIn_seq (reg_in (C := CE) (K := fun τ => τ = ⟨[(0, .ext (yP l)), (4, .var 4 0), (9, .sl false 3 (it.items.map ItemD.av)), (10, .int .i64 it.items.length), (11, .int .i64 i), (12, .bool (decide ((i : Int) < it.items.length))), (13, .elt (.sl false 3 (it.items.map ItemD.av)) i 0), (14, .agg x.cells)], [(4, x.cells)]⟩) hok (by kernel_rfl) rfl bare_open q3 ?_ (fun ⟨a, w, e⟩ => hout a w e) ?_)
      · show exec CE (fun _ τ => τ = _) [.ops _ _] .normal _
        simp only [go_sem, ↓reduceIte, Nat.reduceLT, Nat.reduceLeDiff, Nat.reduceAdd, Nat.reduceSub, Nat.reduceMul, Nat.reduceEqDiff, Nat.reduceBEq, Nat.reduceMod, Nat.reduceDiv, Int.reduceToNat, reduceCtorEq, Int.reduceLT, Int.reduceLE, Int.reduceGT, Int.reduceGE, Int.reduceAdd, Int.reduceSub, Int.reduceMul, Int.reduceNeg, Int.reduceEq, Int.reduceNe, Int.reduceBNe, Int.reduceBEq, Int.reduceDiv, CE, List.length_map, List.getElem?_map, ex, Int.toNat_natCast, ItemD.av_eq]
        repeat with_reducible refine And.intro (by first | omega | (simp only [List.length_cons, List.length_append, List.length_nil, List.length_map, List.length_take, List.length_drop, List.length_set]; omega)) ?_
        simp only [go_sem, ↓reduceIte, Nat.reduceLT, Nat.reduceLeDiff, Nat.reduceAdd, Nat.reduceSub, Nat.reduceMul, Nat.reduceEqDiff, Nat.reduceBEq, Nat.reduceMod, Nat.reduceDiv, Int.reduceToNat, reduceCtorEq, Int.reduceLT, Int.reduceLE, Int.reduceGT, Int.reduceGE, Int.reduceAdd, Int.reduceSub, Int.reduceMul, Int.reduceNeg, Int.reduceEq, Int.reduceNe, Int.reduceBNe, Int.reduceBEq, Int.reduceDiv, CE, cellsI_len]
      rintro a4 w4 ⟨I4, own4, τ, q4, rfl⟩
      refine wpIn_seq (wpIn_region_lit ?_)
      refine op_in (C := CE) (K := fun τ => τ = ⟨[(0, .ext (yP l)), (4, .var 4 0), (9, .sl false 3 (it.items.map ItemD.av)), (10, .int .i64 it.items.length), (11, .int .i64 i), (12, .bool (decide ((i : Int) < it.items.length))), (13, .elt (.sl false 3 (it.items.map ItemD.av)) i 0), (14, .agg x.cells), (15, .ext (yP l))], [(4, x.cells)]⟩) hok (fun c e => by cases e) rfl bare_open q4 ?_ ?_
      · show exec CE (fun _ τ => τ = _) [.ops _ [_]] .normal _
        simp only [go_sem, ↓reduceIte, Nat.reduceLT, Nat.reduceLeDiff, Nat.reduceAdd, Nat.reduceSub, Nat.reduceMul, Nat.reduceEqDiff, Nat.reduceBEq, Nat.reduceMod, Nat.reduceDiv, Int.reduceToNat, reduceCtorEq, Int.reduceLT, Int.reduceLE, Int.reduceGT, Int.reduceGE, Int.reduceAdd, Int.reduceSub, Int.reduceMul, Int.reduceNeg, Int.reduceEq, Int.reduceNe, Int.reduceBNe, Int.reduceBEq, Int.reduceDiv, CE, cellsI_len]
      rintro a5 w5 ⟨I5, own5, τ, q5, rfl⟩
      refine op_in (C := CE) (K := fun τ => τ = ⟨[(0, .ext (yP l)), (4, .var 4 0), (9, .sl false 3 (it.items.map ItemD.av)), (10, .int .i64 it.items.length), (11, .int .i64 i), (12, .bool (decide ((i : Int) < it.items.length))), (13, .elt (.sl false 3 (it.items.map ItemD.av)) i 0), (14, .agg x.cells), (15, .ext (yP l)), (16, .agg x.cells)], [(4, x.cells)]⟩) hok (fun c e => by cases e) rfl bare_open q5 ?_ ?_
      · show exec CE (fun _ τ => τ = _) [.ops _ [_]] .normal _
        simp only [go_sem, ↓reduceIte, Nat.reduceLT, Nat.reduceLeDiff, Nat.reduceAdd, Nat.reduceSub, Nat.reduceMul, Nat.reduceEqDiff, Nat.reduceBEq, Nat.reduceMod, Nat.reduceDiv, Int.reduceToNat, reduceCtorEq, Int.reduceLT, Int.reduceLE, Int.reduceGT, Int.reduceGE, Int.reduceAdd, Int.reduceSub, Int.reduceMul, Int.reduceNeg, Int.reduceEq, Int.reduceNe, Int.reduceBNe, Int.reduceBEq, Int.reduceDiv, CE, ItemD.cells]
      rintro a6 w6 ⟨I6, own6, τ, q6, rfl⟩
      refine op_in (C := CE) (K := fun τ => τ = ⟨[(0, .ext (yP l)), (4, .var 4 0), (9, .sl false 3 (it.items.map ItemD.av)), (10, .int .i64 it.items.length), (11, .int .i64 i), (12, .bool (decide ((i : Int) < it.items.length))), (13, .elt (.sl false 3 (it.items.map ItemD.av)) i 0), (14, .agg x.cells), (15, .ext (yP l)), (16, .agg x.cells), (17, x.av)], [(4, x.cells)]⟩) hok (fun c e => by cases e) rfl bare_open q6 ?_ ?_
      · show exec CE (fun _ τ => τ = _) [.ops _ [_]] .normal _
        simp only [go_sem, ↓reduceIte, Nat.reduceLT, Nat.reduceLeDiff, Nat.reduceAdd, Nat.reduceSub, Nat.reduceMul, Nat.reduceEqDiff, Nat.reduceBEq, Nat.reduceMod, Nat.reduceDiv, Int.reduceToNat, reduceCtorEq, Int.reduceLT, Int.reduceLE, Int.reduceGT, Int.reduceGE, Int.reduceAdd, Int.reduceSub, Int.reduceMul, Int.reduceNeg, Int.reduceEq, Int.reduceNe, Int.reduceBNe, Int.reduceBEq, Int.reduceDiv, CE, cellsI_len]
        have hc := c_copied x hxo
        rw [show [x.av] = [AV.agg x.cells] by rw [x.av_eq]] at hc
        refine ex_call (by exact hc) ?_
        rw [x.av_eq]
        simp only [go_sem, ↓reduceIte, Nat.reduceLT, Nat.reduceLeDiff, Nat.reduceAdd, Nat.reduceSub, Nat.reduceMul, Nat.reduceEqDiff, Nat.reduceBEq, Nat.reduceMod, Nat.reduceDiv, Int.reduceToNat, reduceCtorEq, Int.reduceLT, Int.reduceLE, Int.reduceGT, Int.reduceGE, Int.reduceAdd, Int.reduceSub, Int.reduceMul, Int.reduceNeg, Int.reduceEq, Int.reduceNe, Int.reduceBNe, Int.reduceBEq, Int.reduceDiv, CE, cellsI_len]
      rintro a7 w7 ⟨I7, own7, τ, q7, rfl⟩
      have hd7 : a7.defers = [] := q7.defs.1
      have hi7 : Inv i gs I7 w7 := hstep i gs I' w' I7 w7 hi q7.rstep
      have hg7 : ∀ g, g ∈ gs → g < w7.heap.size := fun g h => Nat.lt_of_lt_of_le (hg g h) q7.fr.size
      have hy : a7.eval (.tmp 15) = .func (.yield l) #[] #[] := by
        have e := q7.val (t := 15) (x := .ext (yP l)) rfl rfl
        cases e with
        | ext p J' v hJ h1 hp => exact hp
      have hxa := (q7.val (t := 17) (x := x.av) (by rw [x.av_eq]; rfl) rfl).tt
      refine yield_in rfl rfl hy (hround i x.av _ gs I7 w7 (by rw [heach, List.getElem?_map, ex]; rfl) hi7 q7.imm hxa) ?_
      rintro bb w8 ⟨gs8, I8, hs8, hb8⟩
      have q8 : RI (bare CE w8 I8) I8 (fun _ => none) ⟨[(0, .ext (yP l)), (9, .sl false 3 (it.items.map ItemD.av)), (10, .int .i64 it.items.length), (11, .int .i64 i), (18, .bool bb)], []⟩ (a7.put (some 18) (.bool bb)) w8 := by
        have e := q7.fresh (C := CE) (a2 := a7.put (some 18) (.bool bb)) rfl hfix rfl (by show (a7.tmps.setIfInBounds 18 _).size = _; rw [Array.size_setIfInBounds]; exact q7.size) hd7 hs8.le hs8.ok (eachTm l it i) (fun t x hx => by
          have hne : ∀ t, t ≠ 18 → (a7.put (some 18) (.bool bb)).tmps[t]? = a7.tmps[t]? := fun t ht => Array.getElem?_setIfInBounds_ne (Ne.symm ht)
          unfold eachTm at hx
          rcases look_cons hx with ⟨rfl, rfl⟩ | hx
          · exact ⟨rfl, rfl, hne _ (by decide)⟩
          rcases look_cons hx with ⟨rfl, rfl⟩ | hx
          · exact ⟨rfl, rfl, hne _ (by decide)⟩
          rcases look_cons hx with ⟨rfl, rfl⟩ | hx
          · exact ⟨rfl, rfl, hne _ (by decide)⟩
          rcases look_cons hx with ⟨rfl, rfl⟩ | hx
          · exact ⟨rfl, rfl, hne _ (by decide)⟩
          cases hx)
        have hlt : 18 < a7.tmps.size := by rw [q7.size]; exact (by decide : 18 < 21)
        have e2 := e.put (t := 18) (x := .bool bb) (v := .bool bb) rfl rfl (fun _ _ _ e => by cases e) (fun _ e => by cases e) ((srep_imm rfl).2 (.bool _))
        rw [put_same (t := 18) (v := .bool bb) (show (a7.tmps.setIfInBounds 18 _)[18]? = _ from Array.getElem?_setIfInBounds_self_of_lt hlt)] at e2
        exact e2
      refine op_in (C := CE) (K := fun τ => τ = ⟨[(0, .ext (yP l)), (9, .sl false 3 (it.items.map ItemD.av)), (10, .int .i64 it.items.length), (11, .int .i64 i), (18, .bool bb), (19, .bool (!bb))], []⟩) hok (fun c e => by cases e) rfl bare_open q8 ?_ ?_
      · show exec CE (fun _ τ => τ = _) [.ops _ [_]] .normal _
        simp only [go_sem, ↓reduceIte, Nat.reduceLT, Nat.reduceLeDiff, Nat.reduceAdd, Nat.reduceSub, Nat.reduceMul, Nat.reduceEqDiff, Nat.reduceBEq, Nat.reduceMod, Nat.reduceDiv, Int.reduceToNat, reduceCtorEq, Int.reduceLT, Int.reduceLE, Int.reduceGT, Int.reduceGE, Int.reduceAdd, Int.reduceSub, Int.reduceMul, Int.reduceNeg, Int.reduceEq, Int.reduceNe, Int.reduceBNe, Int.reduceBEq, Int.reduceDiv, CE]
      rintro a9 w9 ⟨I9, own9, τ, q9, rfl⟩
      refine wpListIn_nil ?_
      cases bb with
      | false =>
        refine wpIn_cond_true (q9.bool (t := 19) rfl) (wpIn_ret ?_)
        refine finR a9 w9 gs8 I9 q9.defs.1 (.inr ?_)
        rcases hb8 with ⟨e, _⟩ | ⟨_, e⟩
        · cases e
        · exact hsstop gs8 I8 w8 I9 w9 e q9.rstep
      | true =>
        have hi8 : Inv (i + 1) gs8 I8 w8 := by
          rcases hb8 with ⟨_, e⟩ | ⟨e, _⟩
          · exact e
          · cases e
        refine wpIn_cond_false (q9.bool (t := 19) rfl) (wpIn_skip ?_)
        show Code.wpIn _ _ _ _ _ a9 w9
        refine reg_in (C := CE) (K := fun τ => τ = ⟨[(0, .ext (yP l)), (9, .sl false 3 (it.items.map ItemD.av)), (10, .int .i64 it.items.length), (11, .int .i64 (i + 1 : Nat)), (18, .bool true), (19, .bool (!true)), (20, .int .i64 (i + 1 : Nat))], []⟩) hok (by kernel_rfl) rfl bare_open q9 ?_ (fun ⟨a, w, e⟩ => hout a w e) ?_
        · show exec CE (fun _ τ => τ = _) [.ops _ _] .normal _
          rw [← wi64_nat i (by omega)]
          simp only [go_sem, ↓reduceIte, Nat.reduceLT, Nat.reduceLeDiff, Nat.reduceAdd, Nat.reduceSub, Nat.reduceMul, Nat.reduceEqDiff, Nat.reduceBEq, Nat.reduceMod, Nat.reduceDiv, Int.reduceToNat, reduceCtorEq, Int.reduceLT, Int.reduceLE, Int.reduceGT, Int.reduceGE, Int.reduceAdd, Int.reduceSub, Int.reduceMul, Int.reduceNeg, Int.reduceEq, Int.reduceNe, Int.reduceBNe, Int.reduceBEq, Int.reduceDiv, CE]
        rintro aa ww ⟨II, ownn, τ, qq, rfl⟩
        exact ih (i + 1) gs8 II aa ww (by omega) (by omega) (heads (i + 1) aa ww _ _ _ _ _ qq rfl rfl rfl rfl) (hstep _ _ _ _ _ _ hi8 qq.rstep) (fun g hg => Nat.lt_of_lt_of_le (hs8.mine g hg).2 qq.fr.size)
end Go.Proofs.Ytdenldjlijoeoaa.VA
end
section
/- Items' bytes: the page's own; what is laid. -/
namespace Go.Proofs.Ytdenldjlijoeoaa.VA
set_option maxRecDepth 10000
set_option linter.unusedSimpArgs false
set_option linter.unusedVariables false
set_option maxHeartbeats 1000000

theorem c_item_Check (it : ItemD) (h : it.ok) : Contract Try.prog 38 [it.av] (.int .i64 (if okI 0 it = true then 0 else 1)) := by
  have hc := c_item_long it h 0 (by omega)
  rw [ItemD.av_eq] at hc
  refine contract_of (C := cf 12 [1, 2, 4, 11] (fun _ => [])) (cf_ok _ _ _) (fn := Try.f38) Try.func38 (by kernel_rfl) rfl (by kernel_rfl) (by simp [cf]) (plain1 it.plain) (by decide) (noCell (by kernel_rfl)) ?_
  cases ho : okI 0 it with
  | true =>
    rw [ho] at hc
    simp only [go_sem, seval, ItemD.av_eq, ItemD.cells]
    refine ex_call (by exact hc) ?_
    simp only [go_sem, seval]
    refine finOne ?_ (fun _ e => by cases e)
    show resOf _ _ [.tmp 2] = _
    simp only [go_sem, seval]
  | false =>
    rw [ho] at hc
    simp only [go_sem, seval, ItemD.av_eq, ItemD.cells]
    refine ex_call (by exact hc) ?_
    simp only [go_sem, seval]
    refine finOne ?_ (fun _ e => by cases e)
    show resOf _ _ [.tmp 2] = _
    simp only [go_sem, seval]
end Go.Proofs.Ytdenldjlijoeoaa.VA
end
section
/- Items' bytes: what is laid. -/
namespace Go.Proofs.Ytdenldjlijoeoaa.VA
set_option maxRecDepth 10000
set_option linter.unusedSimpArgs false
set_option linter.unusedVariables false
set_option maxHeartbeats 1000000

def bytesAv (bs : List UInt8) : AV := .own false 1 (bs.map u8)
theorem bytesAv_plain (bs : List UInt8) : Plain (bytesAv bs) := .own _ _ _ (fun c hc => by obtain ⟨x, _, rfl⟩ := List.mem_map.1 hc; exact .int _ _)
def ownL (f : FuncId) : List Nat := if Nat.beq f 39 = true then [0] else if Nat.beq f 57 = true then [0] else []
theorem ownL_laid : ownL 39 = [0] := rfl
theorem ownL_front : ownL 57 = [0] := rfl
theorem ownL_Each : ownL 42 = [] := rfl
theorem ownL_alone : ownL 37 = [] := rfl
theorem c_laid (it : ItemD) (h : it.ok) (bs : List UInt8) (hb : bs.length ≤ 4294967296) : Contract Try.prog 39 [bytesAv bs, it.av] (bytesAv (bs ++ rawOf it)) := by
  have ih : ∀ x, x ∈ it.items → ∀ bs : List UInt8, bs.length ≤ 4294967296 → Contract Try.prog 39 [bytesAv bs, x.av] (bytesAv (bs ++ rawOf x)) := fun x hx bs hb => c_laid x (h.all x hx) bs hb
  have ht := h.text
  have hn := h.num
  have hle := rawOf_le it h
  have hok := h
  unfold ItemD.ok at hok
  cases hl : it.list with
  | false =>
    refine contract_of (C := cf 36 [0, 3, 4, 5, 6, 7, 11, 12, 22] ( ownL)) (cf_ok _ _ _) (fn := Try.f39) Try.func39 (by kernel_rfl) rfl (by kernel_rfl) (by simp [cf]) (plain2 (bytesAv_plain bs) it.plain) (by decide) (noCell (by kernel_rfl)) ?_
    rw [rawOf_text hl]
    simp only [go_sem, seval, bytesAv, ItemD.av_eq, ItemD.cells, hl, ownL_laid, ownL_front, ownL_Each, ownL_alone]
    refine ex_call (by exact c_item_alone it.text (by omega)) ?_
    cases ha : aloneB it.text with
    | true =>
      rw [if_pos rfl]
      simp only [go_sem, seval, List.length_map]
      repeat with_reducible refine And.intro (by first | omega | (simp only [List.length_cons, List.length_append, List.length_nil, List.length_map, List.length_take, List.length_drop, List.length_set]; omega)) ?_
      refine finOne ?_ (fun _ e => by cases e)
      show resOf _ _ [.tmp 4] = _
      simp only [go_sem, seval, List.map_append]
    | false =>
      rw [if_neg (by simp)]
      have hh := headB_len it.text.length 128
      have hah := ahead_le (n := it.text.length) (by omega)
      simp only [go_sem, seval, ownL_laid, ownL_front, ownL_Each, ownL_alone]
      refine ex_call (by exact c_item_front bs 128 it.text.length (by omega) (by omega) (by omega)) ?_
      simp only [go_sem, seval, List.length_map, List.length_append]
      repeat with_reducible refine And.intro (by first | omega | (simp only [List.length_cons, List.length_append, List.length_nil, List.length_map, List.length_take, List.length_drop, List.length_set]; omega)) ?_
      refine finOne ?_ (fun _ e => by cases e)
      show resOf _ _ [.tmp 4] = _
      simp only [go_sem, seval, List.map_append, List.append_assoc]
  | true =>
    have heach : eachOf it = it.items.map ItemD.av := by unfold eachOf; rw [hl]; rfl
    have hce := c_Each it
    rw [ItemD.av_eq] at hce
    rw [rawOf_list hl]
    rw [rawOf_list hl, List.length_append] at hle
    refine contract_of (C := cf 36 [0, 3, 4, 5, 6, 7, 11, 12, 22] ( ownL)) (cf_ok _ _ _) (fn := Try.f39) Try.func39 (by kernel_rfl) rfl (by kernel_rfl) (by simp [cf]) (plain2 (bytesAv_plain bs) it.plain) (by decide) (noCell (by kernel_rfl)) ?_
    simp only [go_sem, seval, bytesAv, ItemD.av_eq, ItemD.cells, hl, ownL_laid, ownL_front, ownL_Each, ownL_alone]
    refine ex_call (by simpa only [ItemD.cells, hl] using hce) ?_
    simp only [go_sem, seval, ItemD.cells, hl]
    refine ex_range [5] 12 (cloP 58 it.cells) (eachOf it) (fun i => [(5, [bytesAv (raws (it.items.take i))])]) ⟨rfl, rfl, rfl, by decide, by decide, rfl, ?_, iter_each it h, (by rw [List.take_zero, raws_nil]; rfl), plainVs_one (all_cons (plainV_of (bytesAv_plain _)) all_nil), fun _ => rfl⟩ (fun i x hx => ?_) ?_
    · show AV.ext _ = AV.ext (cloP _ it.cells)
      rw [ItemD.cells, hl]
    · obtain ⟨y, ey, rfl⟩ : ∃ y, it.items[i]? = some y ∧ y.av = x := by
        rw [heach, List.getElem?_map, Option.map_eq_some_iff] at hx
        exact hx
      have hm := List.mem_of_getElem? ey
      have hsnoc : raws (it.items.take i) ++ rawOf y = raws (it.items.take (i + 1)) := by
        rw [List.take_add_one, ey]
        show _ = raws (_ ++ [y])
        rw [raws_append, raws_cons, raws_nil, List.append_nil]
      have hpre : (raws (it.items.take (i + 1))).length ≤ (raws it.items).length := by
        conv => rhs; rw [← List.take_append_drop (i + 1) it.items, raws_append, List.length_append]
        omega
      have hy := ih y hm (raws (it.items.take i)) (by rw [← hsnoc, List.length_append] at hpre; omega)
      rw [hsnoc, y.av_eq] at hy
      rw [y.av_eq]
      refine ⟨rfl, ?_⟩
      simp only [go_sem, seval, cellsI_len, bytesAv, ItemD.cells, ownL_laid, ownL_front, ownL_Each, ownL_alone]
      refine ex_call (by exact hy) ?_
      simp only [go_sem, seval, bytesAv]
    · rw [heach, List.length_map, List.take_length]
      have hh := headB_len (raws it.items).length 192
      have hah := ahead_le (n := (raws it.items).length) (by omega)
      simp only [go_sem, seval, bytesAv]
      refine ex_draw [] [] (.quiet 0 (.quiet 1 (.quiet 2 (.quiet 4 (.one 3 (.one 5 (.quiet 6 (.fin)))))))) (by kernel_rfl) ?_
      simp only [go_sem, seval, bytesAv, List.length_map, ownL_laid, ownL_front, ownL_Each, ownL_alone]
      refine ex_call (by exact c_item_front bs 192 (raws it.items).length (by omega) (by omega) (by omega)) ?_
      simp only [go_sem, seval, bytesAv, List.length_map, List.length_append]
      refine ⟨by omega, ?_⟩
      refine finOne ?_ (fun _ e => by cases e)
      show resOf _ _ [.tmp 4] = _
      simp only [go_sem, seval, List.map_append, List.append_assoc]
termination_by SizeOf.sizeOf it
decreasing_by exact item_lt hx
theorem ownL_Check : ownL 38 = [] := rfl
def bytesI (it : ItemD) : List UInt8 := if okI 0 it = true then rawOf it else []
theorem c_item_Bytes (it : ItemD) (h : it.ok) : Contract Try.prog 25 [it.av] (.tup [.str (bytesI it), .int .i64 (if okI 0 it = true then 0 else 1)]) := by
  have hc := c_item_Check it h
  have hl := c_laid it h [] (by simp)
  rw [ItemD.av_eq] at hc hl
  unfold bytesAv at hl
  rw [List.nil_append] at hl
  unfold bytesI
  refine contract_of (C := cf 13 [1, 2, 3, 4, 8] ( ownL)) (cf_ok _ _ _) (fn := Try.f25) Try.func25 (by kernel_rfl) rfl (by kernel_rfl) (by simp [cf]) (plain1 it.plain) (by decide) (noCell (by kernel_rfl)) ?_
  cases ho : okI 0 it with
  | true =>
    rw [ho] at hc
    simp only [go_sem, seval, ItemD.av_eq, ItemD.cells, ownL_Check]
    refine ex_call (by exact hc) ?_
    simp only [go_sem, seval, ownL_laid]
    refine ex_call (by exact hl) ?_
    simp only [go_sem, seval, asU8_map]
    refine finTup ?_
    show resOf _ _ [.tmp 2, .tmp 3] = _
    simp only [go_sem, seval]
  | false =>
    rw [ho] at hc
    simp only [go_sem, seval, ItemD.av_eq, ItemD.cells, ownL_Check]
    refine ex_call (by exact hc) ?_
    simp only [go_sem, seval]
    refine finTup ?_
    show resOf _ _ [.tmp 2, .tmp 3] = _
    simp only [go_sem, seval]
theorem c_law4_wakes : Contract Try.prog 12 [] (.bool true) := by
  have hb := c_item_Bytes (.mk true [] [.mk false [97] [], .mk false [] []]) (by unfold ItemD.ok; decide +kernel)
  have hbs : bytesI (.mk true [] [.mk false [97] [], .mk false [] []]) = [194, 97, 128] := by decide +kernel
  have ho : okI 0 (.mk true [] [.mk false [97] [], .mk false [] []]) = true := by decide +kernel
  have hav : (ItemD.mk true [] [.mk false [97] [], .mk false [] []]).av = .agg [.bool true, .str [], .sl false 3 [.agg [.bool false, .str [97], .sl false 3 []], .agg [.bool false, .str [], .sl false 3 []]]] := by
    simp only [ItemD.av, ItemD.avs]
  rw [hbs, ho, hav] at hb
  have leaf : ∀ s : List UInt8, Dull (.agg [.bool false, .str s, .ext nilP]) (.agg [.bool false, .str s, .sl false 3 []]) := fun s => dulls_agg (.cons (.refl _) (.cons (.refl _) (.cons (.nil _ _) .nil)))
  have hrow : Dull (.sl true 3 [.agg [.bool false, .str [97], .ext nilP], .agg [.bool false, .str [], .ext nilP]]) (.sl false 3 [.agg [.bool false, .str [97], .sl false 3 []], .agg [.bool false, .str [], .sl false 3 []]]) :=
    .sl _ _ _ _ rfl fun j x y h k => by
      match j, h, k with
      | 0, h, k => cases h; cases k; exact leaf _
      | 1, h, k => cases h; cases k; exact leaf _
      | j + 2, h, k => cases h
  have hd : Dull (.agg [.bool true, .str [], .sl true 3 [.agg [.bool false, .str [97], .ext nilP], .agg [.bool false, .str [], .ext nilP]]]) (.agg [.bool true, .str [], .sl false 3 [.agg [.bool false, .str [97], .sl false 3 []], .agg [.bool false, .str [], .sl false 3 []]]]) :=
    dulls_agg (.cons (.refl _) (.cons (.refl _) (.cons hrow .nil)))
  refine contract_of (C := cf 18 [0, 1, 2] (fun _ => [])) (cf_ok _ _ _) (fn := Try.f12) Try.func12 (by kernel_rfl) rfl (by kernel_rfl) (by simp [cf]) (fun _ h => by cases h) (by decide) (noCell (by kernel_rfl)) ?_
  simp only [go_sem, seval]
  refine ex_call_dull (.cons hd .nil) (by exact hb) ?_
  simp only [go_sem, seval]
  refine ex_call (by exact c_law4_num 0) ?_
  simp only [go_sem, seval]
  refine finOne ?_ (fun _ e => by cases e)
  show resOf _ _ [.tmp 0] = _
  simp only [go_sem, seval]
end Go.Proofs.Ytdenldjlijoeoaa.VA
end
section
/- Transactions as bytes. -/
namespace Go.Proofs.Ytdenldjlijoeoaa.VA
set_option maxRecDepth 10000
set_option linter.unusedSimpArgs false
set_option linter.unusedVariables false
set_option maxHeartbeats 8000000

theorem c_tx_amount (n : Nat) (hn : n < U) : Contract Try.prog 47 [u n] (.agg [.bool false, .str (bytesOf n), .sl false 3 []]) := by
  have h := c_u256_Text n hn
  unfold u at h
  refine contract_of (C := cf 6 [1, 2] (fun _ => [])) (cf_ok _ _ _) (fn := Try.f47) Try.func47 (by kernel_rfl) rfl (by kernel_rfl) (by simp [cf]) (plain1 (u_plain n)) (by decide) (cellsOk (by kernel_rfl)) ?_
  simp only [go_sem, seval, u]
  refine ex_call (by exact h) ?_
  simp only [go_sem, seval]
  refine finOneD (r' := .agg [.bool false, .str (bytesOf n), .ext nilP]) ?_ (dull_none _ _) (fun _ e => by cases e) (fun _ e => by cases e)
  show resOf _ _ [.cell 2 26] = _
  simp only [go_sem, seval]
theorem c_tx_number (n : Int) (h0 : 0 ≤ n) (h1 : n < 9223372036854775808) : Contract Try.prog 46 [.int .i64 n] (.agg [.bool false, .str (bytesOf n.toNat), .sl false 3 []]) := by
  have h := c_tx_amount n.toNat (lt_U (by omega))
  rw [u_small n.toNat (by omega)] at h
  have w : IntKind.u64.wrap n = (n.toNat : Int) := by rw [wu64 (by omega) (by omega)]; omega
  refine contract_of (C := cf 7 [0, 2] (fun _ => [])) (cf_ok _ _ _) (fn := Try.f46) Try.func46 (by kernel_rfl) rfl (by kernel_rfl) (by simp [cf]) (plain1 (.int _ _)) (by decide) (cellsOk (by kernel_rfl)) ?_
  simp only [go_sem, seval, w]
  refine ex_call (by exact h) ?_
  simp only [go_sem, seval]
  refine finOne ?_ (fun _ e => by cases e)
  show resOf _ _ [.cell 2 26] = _
  simp only [go_sem, seval]
theorem repI_own {sz i : Nat} {es : List AV} (h : 0 < i) : repI sz i es = .own false sz es := by
  cases i with
  | zero => exact absurd h (by omega)
  | succ i => rfl
abbrev leafA (s : List UInt8) : AV := .agg [.bool false, .str s, .ext nilP]
theorem leaves_dull {α : Type} (s : α → List UInt8) (l : List α) (fr : Bool) : Dull (.agg [.bool true, .str [], .sl fr 3 (l.map fun a => leafA (s a))]) (listI (l.map fun a => leaf (s a))).av := by
  rw [ItemD.av_eq]
  refine dulls_agg (.cons (.refl _) (.cons (.refl _) (.cons ?_ .nil)))
  refine .sl _ _ _ _ (by simp [ItemD.items]) fun j x y h e => ?_
  simp only [ItemD.items, List.getElem?_map, Option.map_eq_some_iff] at h e
  obtain ⟨a, h1, rfl⟩ := h
  obtain ⟨b, ⟨c, h2, rfl⟩, rfl⟩ := e
  rw [h1] at h2
  cases h2
  rw [ItemD.av_eq]
  exact dull_none _ _
abbrev numA (n : Nat) : AV := .agg [.bool false, .str (bytesOf n), .sl false 3 []]
theorem tx_dull (t : TxD) (f1 f2 f3 : Bool) : Dull (.agg [.bool true, .str [], .sl f1 3 [numA t.frm.toNat, numA t.nonce.toNat, numA t.tip, numA t.cap, numA t.bcap, numA t.value, numA t.gas.toNat,
    .agg [.bool true, .str [], .sl f2 3 (t.hashes.map fun h => leafA (textOf h))], .agg [.bool true, .str [], .sl f3 3 (t.blobs.map fun b => leafA b)]]])
    (.agg [.bool (txItem t).list, .str (txItem t).text, .sl false 3 ((txItem t).items.map ItemD.av)]) := by
  have nn : ∀ n, (numI n).av = numA n := fun n => by rw [ItemD.av_eq]; rfl
  have e : (txItem t).items.map ItemD.av = [numA t.frm.toNat, numA t.nonce.toNat, numA t.tip, numA t.cap, numA t.bcap, numA t.value, numA t.gas.toNat, (hashI t).av, (blobI t).av] := by
    show List.map ItemD.av [_, _, _, _, _, _, _, _, _] = _
    simp only [List.map_cons, List.map_nil, nn]
  rw [e]
  refine dulls_agg (.cons (.refl _) (.cons (.refl _) (.cons ?_ .nil)))
  refine .sl _ _ _ _ rfl fun j x y h k => ?_
  match j, h, k with
  | 0, h, k => cases h; cases k; exact .refl _
  | 1, h, k => cases h; cases k; exact .refl _
  | 2, h, k => cases h; cases k; exact .refl _
  | 3, h, k => cases h; cases k; exact .refl _
  | 4, h, k => cases h; cases k; exact .refl _
  | 5, h, k => cases h; cases k; exact .refl _
  | 6, h, k => cases h; cases k; exact .refl _
  | 7, h, k => cases h; cases k; exact leaves_dull textOf t.hashes f2
  | 8, h, k => cases h; cases k; exact leaves_dull (fun b => b) t.blobs f3
  | j + 9, h, k => cases h
def bytesTx (t : TxD) : List UInt8 := if validTx t = true then txRaw t else []
theorem c_BytesI7 (a : ItemD) (ha : a.ok) : Contract Try.prog 25 [.agg [.bool a.list, .str a.text, .sl false 3 (a.items.map ItemD.av)]] (.tup [.str (bytesI a), .int .i64 (if okI 0 a = true then 0 else 1)]) := by
  have h := c_item_Bytes a ha
  rw [a.av_eq] at h
  exact h
theorem c_tx_Bytes (t : TxD) (h : t.ok) : Contract Try.prog 28 [t.av] (.tup [.str (bytesTx t), .int .i64 (if validTx t = true then 0 else 1)]) := by
  have hc := c_tx_Check t h
  unfold TxD.av TxD.cells ints strs at hc
  unfold bytesTx
  cases hv : validTx t with
  | false =>
    rw [hv, if_neg (by simp)] at hc
    refine contract_of (C := cf 74 [1, 2, 3, 4, 5, 6, 7, 8, 9, 13, 17, 18, 19, 20, 21] (fun _ => [])) (cf_ok _ _ _) (fn := Try.f28) Try.func28 (by kernel_rfl) rfl (by kernel_rfl) (by simp [cf]) (plain1 t.plain) (by decide) (noCell (by kernel_rfl)) ?_
    simp only [go_sem, seval, TxD.av, TxD.cells, ints, strs]
    refine ex_call (by exact hc) ?_
    simp only [go_sem, seval]
    refine finTup ?_
    show resOf _ _ [.tmp 2, .tmp 3] = _
    simp only [go_sem, seval]
  | true =>
    have V := valid_of hv
    have h1 := V.one
    have h4 := V.four
    have hhl : t.hashes.length = t.blobs.length := by rw [V.hashes, List.length_map]
    rw [hv, if_pos rfl] at hc
    have n0 := c_tx_number t.frm V.frm.1 (by have := V.frm; omega)
    have n1 := c_tx_number t.nonce V.nonce.1 (by have := V.nonce; omega)
    have n2 := c_tx_amount t.tip h.tip
    have n3 := c_tx_amount t.cap h.cap
    have n4 := c_tx_amount t.bcap h.bcap
    have n5 := c_tx_amount t.value h.value
    have n6 := c_tx_number t.gas V.gas.1 (by have := V.gas; omega)
    unfold u at n2 n3 n4 n5
    have nb := c_BytesI7 (txItem t) (tx_itok h V)
    have hmay := tx_may h V
    rw [hmay, if_pos rfl] at nb
    have hb : bytesI (txItem t) = txRaw t := by unfold bytesI; rw [if_pos hmay]; rfl
    rw [hb] at nb
    rw [if_pos rfl, if_pos rfl]
    refine contract_of (C := cf 74 [1, 2, 3, 4, 5, 6, 7, 8, 9, 13, 17, 18, 19, 20, 21] (fun _ => [])) (cf_ok _ _ _) (fn := Try.f28) Try.func28 (by kernel_rfl) rfl (by kernel_rfl) (by simp [cf]) (plain1 t.plain) (by decide) (noCell (by kernel_rfl)) ?_
    simp only [go_sem, seval, TxD.av, TxD.cells, ints, strs]
    refine ex_call (by exact hc) ?_
    simp only [go_sem, seval, List.length_map]
    refine ex_iter [1, 5, 6, 17, 18, 19, 20] (fun i : Nat => ⟨[(1, .var 1 0), (5, .var 5 0), (6, .var 6 0), (17, .var 1 20), (18, .sl false 1 (t.blobs.map AV.str)), (19, .int .i64 t.blobs.length), (20, .int .i64 i)],
      [(1, [.int .i64 t.frm, .int .i64 t.nonce, .int .u64 (lim t.tip 0), .int .u64 (lim t.tip 1), .int .u64 (lim t.tip 2), .int .u64 (lim t.tip 3),
  .int .u64 (lim t.cap 0), .int .u64 (lim t.cap 1), .int .u64 (lim t.cap 2), .int .u64 (lim t.cap 3), .int .u64 (lim t.bcap 0), .int .u64 (lim t.bcap 1), .int .u64 (lim t.bcap 2), .int .u64 (lim t.bcap 3),
  .int .u64 (lim t.value 0), .int .u64 (lim t.value 1), .int .u64 (lim t.value 2), .int .u64 (lim t.value 3), .int .i64 t.gas, .sl false 1 (t.hashes.map (AV.int .u64)), .sl false 1 (t.blobs.map AV.str)]),
       (5, [.bool true, .str [], repI 3 i ((t.hashes.take i).map fun h => leafA (textOf h))]), (6, [.bool true, .str [], repI 3 i ((t.blobs.take i).map fun b => leafA b)])]⟩)
      (fun i => i ≤ t.blobs.length) (fun i => t.blobs.length - i) 0 ?_ ?_ ?_
    · simp only [ASt.keep, consIf, keepL, keepV, AV.isBot, List.contains_cons, List.contains_nil, Nat.reduceBEq, Bool.or_false, Bool.false_or, Bool.or_true, Bool.true_or, beq_self_eq_true, Bool.false_eq_true, ↓reduceIte, if_false, if_true]
      rfl
    · exact Nat.zero_le _
    · intro r i hi next
      simp only [go_sem, seval]
      refine ex_br (fun hlt => ?_) (fun hlt => ?_)
      · have hlt : i < t.blobs.length := by simpa using hlt
        obtain ⟨b, eb⟩ : ∃ b, t.blobs[i]? = some b := ⟨_, List.getElem?_eq_getElem hlt⟩
        obtain ⟨hh, eh⟩ : ∃ hh, t.hashes[i]? = some hh := ⟨_, List.getElem?_eq_getElem (by omega)⟩
        have s1 : (t.hashes.take i).map (fun h => leafA (textOf h)) ++ [.agg [.bool false, .str (textOf hh), .ext nilP]] = (t.hashes.take (i + 1)).map fun h => leafA (textOf h) := take_snoc (fun h => leafA (textOf h)) eh
        have s2 : (t.blobs.take i).map (fun b => leafA b) ++ [.agg [.bool false, .str b, .ext nilP]] = (t.blobs.take (i + 1)).map fun b => leafA b := take_snoc (fun b => leafA b) eb
        cases i with
        | zero =>
          simp only [go_sem, seval, repI, List.length_map, List.getElem?_map, eb, eh, Int.toNat_natCast, Int.cast_ofNat_Int]
          repeat with_reducible refine And.intro (by first | omega | (simp only [List.length_cons, List.length_append, List.length_nil, List.length_map, List.length_take, List.length_drop, List.length_set]; omega)) ?_
          refine ex_draw [12] [] (.quiet 0 (.quiet 1 (.quiet 2 (.quiet 3 (.quiet 4 (.quiet 5 (.quiet 6 (.one 7 (.one 8 (.one 9 (.one 10 (.quiet 11 (.unlock (.one 12 (.fin))))))))))))))) (by kernel_rfl) ?_
          simp only [go_sem, seval, repI, List.length_map, List.getElem?_map, eb, eh, Int.toNat_natCast, Int.cast_ofNat_Int]
          repeat with_reducible refine And.intro (by first | omega | (simp only [List.length_cons, List.length_append, List.length_nil, List.length_map, List.length_take, List.length_drop, List.length_set]; omega)) ?_
          try simp only [go_sem, seval, eh, Int.toNat_natCast, List.getElem?_map]
          refine ex_call (by exact c_mark_Text hh) ?_
          simp only [go_sem, seval, repI]
          repeat with_reducible refine And.intro (by first | omega | (simp only [List.length_cons, List.length_append, List.length_nil, List.length_map, List.length_take, List.length_drop, List.length_set]; omega)) ?_
          refine next (0 + 1) _ (by omega) (by omega) ?_
          rw [← wi64_nat 0 (by omega), ← s1, ← s2]
          simp only [ASt.keep, consIf, keepL, keepV, AV.isBot, List.contains_cons, List.contains_nil, Nat.reduceBEq, Bool.or_false, Bool.false_or, Bool.or_true, Bool.true_or, beq_self_eq_true, Bool.false_eq_true, ↓reduceIte, if_false, if_true]
          rfl
        | succ i =>
          simp only [go_sem, seval, repI, List.length_map, List.getElem?_map, eb, eh, Int.toNat_natCast]
          repeat with_reducible refine And.intro (by first | omega | (simp only [List.length_cons, List.length_append, List.length_nil, List.length_map, List.length_take, List.length_drop, List.length_set]; omega)) ?_
          try simp only [go_sem, seval, repI, List.length_map, List.getElem?_map, eb, eh, Int.toNat_natCast]
          refine ex_draw [12] [] (.quiet 0 (.quiet 1 (.quiet 2 (.quiet 3 (.quiet 4 (.quiet 5 (.quiet 6 (.one 7 (.one 8 (.one 9 (.one 10 (.quiet 11 (.unlock (.one 12 (.fin))))))))))))))) (by kernel_rfl) ?_
          simp only [go_sem, seval, repI, List.length_map, List.getElem?_map, eb, eh, Int.toNat_natCast]
          repeat with_reducible refine And.intro (by first | omega | (simp only [List.length_cons, List.length_append, List.length_nil, List.length_map, List.length_take, List.length_drop, List.length_set]; omega)) ?_
          try simp only [go_sem, seval, eh, Int.toNat_natCast, List.getElem?_map]
          refine ex_call (by exact c_mark_Text hh) ?_
          simp only [go_sem, seval, repI, List.length_map]
          repeat with_reducible refine And.intro (by first | omega | (simp only [List.length_cons, List.length_append, List.length_nil, List.length_map, List.length_take, List.length_drop, List.length_set]; omega)) ?_
          try simp only [go_sem, seval, repI, List.length_map]
          repeat with_reducible refine And.intro (by first | omega | (simp only [List.length_cons, List.length_append, List.length_nil, List.length_map, List.length_take, List.length_drop, List.length_set]; omega)) ?_
          refine next (i + 1 + 1) _ (by omega) (by omega) ?_
          rw [← wi64_nat (i + 1) (by omega), ← s1, ← s2]
          simp only [ASt.keep, consIf, keepL, keepV, AV.isBot, List.contains_cons, List.contains_nil, Nat.reduceBEq, Bool.or_false, Bool.false_or, Bool.or_true, Bool.true_or, beq_self_eq_true, Bool.false_eq_true, ↓reduceIte, if_false, if_true]
          rfl
      · have hge : i = t.blobs.length := by simp at hlt; omega
        subst hge
        have p1 := repI_own (sz := 3) (i := t.blobs.length) (es := t.hashes.map fun h => leafA (textOf h)) (by omega)
        have p2 := repI_own (sz := 3) (i := t.blobs.length) (es := t.blobs.map fun b => leafA b) (by omega)
        rw [show t.hashes.take t.blobs.length = t.hashes by rw [← hhl, List.take_length], List.take_length, p1, p2]
        simp only [go_sem, seval]
        refine ex_draw [] [] (.quiet 0 (.quiet 1 (.quiet 3 (.quiet 4 (.quiet 6 (.quiet 7 (.quiet 9 (.quiet 10 (.quiet 12 (.quiet 13 (.quiet 15 (.quiet 16 (.quiet 18 (.quiet 19 (.quiet 21 (.quiet 22 (.one 2 (.one 5 (.one 8 (.one 11 (.one 14 (.one 17 (.one 20 (.one 23 (.quiet 24 (.fin)))))))))))))))))))))))))) (by kernel_rfl) ?_
        simp only [go_sem, seval]
        refine ex_call (by exact n0) ?_
        simp only [go_sem, seval]
        refine ex_call (by exact n1) ?_
        simp only [go_sem, seval]
        refine ex_call (by exact n2) ?_
        simp only [go_sem, seval]
        refine ex_call (by exact n3) ?_
        simp only [go_sem, seval]
        refine ex_call (by exact n4) ?_
        simp only [go_sem, seval]
        refine ex_call (by exact n5) ?_
        simp only [go_sem, seval]
        refine ex_call (by exact n6) ?_
        simp only [go_sem, seval]
        refine ex_call_dull (.cons (tx_dull t _ _ _) .nil) (by exact nb) ?_
        simp only [go_sem, seval]
        refine finTup ?_
        show resOf _ _ [.tmp 2, .tmp 3] = _
        simp only [go_sem, seval]
end Go.Proofs.Ytdenldjlijoeoaa.VA
end
section
/- Transactions as bytes: the page's own; IDs. -/
namespace Go.Proofs.Ytdenldjlijoeoaa.VA
set_option maxRecDepth 10000
set_option linter.unusedSimpArgs false
set_option linter.unusedVariables false
set_option maxHeartbeats 8000000

theorem leaves_dull2 {α : Type} (s : α → List UInt8) (l : List α) (fr : Bool) : Dull (.agg [.bool true, .str [], .sl fr 3 (l.map fun a => .agg [.bool false, .str (s a), .sl false 3 []])]) (listI (l.map fun a => leaf (s a))).av := by
  rw [ItemD.av_eq]
  refine dulls_agg (.cons (.refl _) (.cons (.refl _) (.cons ?_ .nil)))
  refine .sl _ _ _ _ (by simp [ItemD.items]) fun j x y h e => ?_
  simp only [ItemD.items, List.getElem?_map, Option.map_eq_some_iff] at h e
  obtain ⟨a, h1, rfl⟩ := h
  obtain ⟨b, ⟨c, h2, rfl⟩, rfl⟩ := e
  rw [h1] at h2
  cases h2
  rw [ItemD.av_eq]
  exact .refl _
theorem tx_dull2 (t : TxD) (f1 f2 f3 : Bool) : Dull (.agg [.bool true, .str [], .sl f1 3 [numA t.frm.toNat, numA t.nonce.toNat, numA t.tip, numA t.cap, numA t.bcap, numA t.value, numA t.gas.toNat,
    .agg [.bool true, .str [], .sl f2 3 (t.hashes.map fun h => .agg [.bool false, .str (textOf h), .sl false 3 []])], .agg [.bool true, .str [], .sl f3 3 (t.blobs.map fun b => .agg [.bool false, .str b, .sl false 3 []])]]])
    (.agg [.bool (txItem t).list, .str (txItem t).text, .sl false 3 ((txItem t).items.map ItemD.av)]) := by
  have nn : ∀ n, (numI n).av = numA n := fun n => by rw [ItemD.av_eq]; rfl
  have e : (txItem t).items.map ItemD.av = [numA t.frm.toNat, numA t.nonce.toNat, numA t.tip, numA t.cap, numA t.bcap, numA t.value, numA t.gas.toNat, (hashI t).av, (blobI t).av] := by
    show List.map ItemD.av [_, _, _, _, _, _, _, _, _] = _
    simp only [List.map_cons, List.map_nil, nn]
  rw [e]
  refine dulls_agg (.cons (.refl _) (.cons (.refl _) (.cons ?_ .nil)))
  refine .sl _ _ _ _ rfl fun j x y h k => ?_
  match j, h, k with
  | 0, h, k => cases h; cases k; exact .refl _
  | 1, h, k => cases h; cases k; exact .refl _
  | 2, h, k => cases h; cases k; exact .refl _
  | 3, h, k => cases h; cases k; exact .refl _
  | 4, h, k => cases h; cases k; exact .refl _
  | 5, h, k => cases h; cases k; exact .refl _
  | 6, h, k => cases h; cases k; exact .refl _
  | 7, h, k => cases h; cases k; exact leaves_dull2 textOf t.hashes f2
  | 8, h, k => cases h; cases k; exact leaves_dull2 (fun b => b) t.blobs f3
  | j + 9, h, k => cases h
def idTx (t : TxD) : Int := markOf (txRaw t)
end Go.Proofs.Ytdenldjlijoeoaa.VA
end
section
/- Numbers by the page: bits, out of bytes. -/
namespace Go.Proofs.Ytdenldjlijoeoaa.VA
set_option maxRecDepth 10000
set_option linter.unusedSimpArgs false
set_option linter.unusedVariables false
set_option maxHeartbeats 8000000

theorem and_one {x : Nat} (hx : x < 18446744073709551616) : (IntKind.u64.wrap (BitVec.ofInt IntKind.u64.bits (x : Int) &&& BitVec.ofInt IntKind.u64.bits 1).toNat == (1 : Int)) = decide (x % 2 = 1) := by
  rw [show IntKind.u64.bits = 64 from rfl, ofInt_nat, show (1 : Int) = ((1 : Nat) : Int) from rfl, ofInt_nat, BitVec.toNat_and, BitVec.toNat_ofNat, BitVec.toNat_ofNat, Nat.mod_eq_of_lt hx]
  have : x &&& 1 % 2 ^ 64 = x % 2 := Nat.and_one_is_mod x
  rw [this, wu64 (by omega) (by omega), Bool.eq_iff_iff]
  simp only [beq_iff_eq, decide_eq_true_eq]
  omega
theorem limN_bit (n i : Nat) (h : i < 256) : decide (limN n (i / 64) / 2 ^ (i % 64) % 2 = 1) = n.testBit i := by
  rw [← Nat.testBit_eq_decide_div_mod_eq]
  unfold limN
  rw [show (18446744073709551616 : Nat) = 2 ^ 64 by decide, Nat.testBit_mod_two_pow, decide_eq_true (show i % 64 < 64 by omega), Bool.true_and, Nat.testBit_div_two_pow]
  congr 1
  omega
theorem c_ref1_Bit (n i : Nat) (hn : n < U) (hi : i < 256) : Contract Try.prog 63 [u n, .int .i64 i] (.bool (n.testBit i)) := by
  have wq : (i : Int).tdiv 64 = ((i / 64 : Nat) : Int) := rfl
  have wr : (i : Int).tmod 64 = ((i % 64 : Nat) : Int) := rfl
  have wq2 := wi64n (i / 64) (by omega)
  have hl := limN_lt n (i / 64)
  have hsh := shr_nat (limN n (i / 64)) (i % 64) (by omega)
  have hlt : limN n (i / 64) / 2 ^ (i % 64) < 18446744073709551616 := Nat.lt_of_le_of_lt (Nat.div_le_self _ _) hl
  have ha := and_one hlt
  rw [limN_bit n i hi] at ha
  refine contract_of (C := cf 14 [1, 2, 4] (fun _ => [])) (cf_ok _ _ _) (fn := Try.f63) Try.func63 (by kernel_rfl) rfl (by kernel_rfl) (by simp [cf]) (plain2 (u_plain n) (.int _ _)) (by decide) (noCell (by kernel_rfl)) ?_
  have hg := limb_at n (i / 64) (by omega)
  simp only [go_sem, ↓reduceIte, Nat.reduceLT, Nat.reduceLeDiff, Nat.reduceAdd, Nat.reduceSub, Nat.reduceMul, Nat.reduceEqDiff, Nat.reduceBEq, Nat.reduceMod, Nat.reduceDiv, Int.reduceToNat, reduceCtorEq, Int.reduceLT, Int.reduceLE, Int.reduceGT, Int.reduceGE, Int.reduceAdd, Int.reduceSub, Int.reduceMul, Int.reduceNeg, Int.reduceEq, Int.reduceNe, Int.reduceBNe, Int.reduceBEq, Int.reduceDiv, u, wq, wr, wq2, Int.toNat_natCast]
  repeat with_reducible refine And.intro (by first | omega | (simp only [List.length_cons, List.length_append, List.length_nil, List.length_map, List.length_take, List.length_drop, List.length_set]; omega)) ?_
  try simp only [go_sem, ↓reduceIte, Nat.reduceLT, Nat.reduceLeDiff, Nat.reduceAdd, Nat.reduceSub, Nat.reduceMul, Nat.reduceEqDiff, Nat.reduceBEq, Nat.reduceMod, Nat.reduceDiv, Int.reduceToNat, reduceCtorEq, Int.reduceLT, Int.reduceLE, Int.reduceGT, Int.reduceGE, Int.reduceAdd, Int.reduceSub, Int.reduceMul, Int.reduceNeg, Int.reduceEq, Int.reduceNe, Int.reduceBNe, Int.reduceBEq, Int.reduceDiv, u, wq, wr, wq2, Int.toNat_natCast, hg]
  refine ⟨by omega, ?_⟩
  rw [lim_limN, hsh]
  erw [ha]
  refine finOne ?_ (fun _ e => by cases e)
  show resOf _ _ [.tmp 4] = _
  simp only [go_sem, ↓reduceIte, Nat.reduceLT, Nat.reduceLeDiff, Nat.reduceAdd, Nat.reduceSub, Nat.reduceMul, Nat.reduceEqDiff, Nat.reduceBEq, Nat.reduceMod, Nat.reduceDiv, Int.reduceToNat, reduceCtorEq, Int.reduceLT, Int.reduceLE, Int.reduceGT, Int.reduceGE, Int.reduceAdd, Int.reduceSub, Int.reduceMul, Int.reduceNeg, Int.reduceEq, Int.reduceNe, Int.reduceBNe, Int.reduceBEq, Int.reduceDiv]
theorem bits_top {n j : Nat} (h1 : n < 2 ^ (j + 1)) (h2 : n.testBit j = true) : bitsOf n = j + 1 := by
  have h3 := (bits_le n (j + 1)).2 h1
  have h4 := bits_ge (Nat.ge_two_pow_of_testBit h2)
  omega
theorem bits_down {n j : Nat} (h1 : n < 2 ^ (j + 1)) (h2 : n.testBit j = false) : n < 2 ^ j := by
  rw [Nat.testBit_eq_decide_div_mod_eq, decide_eq_false_iff_not] at h2
  rw [Nat.pow_succ] at h1
  have h3 : n / 2 ^ j < 2 := Nat.div_lt_of_lt_mul h1
  rcases Nat.eq_zero_or_pos (n / 2 ^ j) with h | h
  · exact (Nat.div_eq_zero_iff_lt (Nat.two_pow_pos j)).1 h
  · omega
theorem c_ref1_Bits (n : Nat) (hn : n < U) : Contract Try.prog 48 [u n] (.int .i64 (bitsOf n)) := by
  refine contract_of (C := cf 13 [1, 2, 3, 5, 10] (fun _ => [])) (cf_ok _ _ _) (fn := Try.f48) Try.func48 (by kernel_rfl) rfl (by kernel_rfl) (by simp [cf]) (plain1 (u_plain n)) (by decide) (noCell (by kernel_rfl)) ?_
  simp only [go_sem, ↓reduceIte, Nat.reduceLT, Nat.reduceLeDiff, Nat.reduceAdd, Nat.reduceSub, Nat.reduceMul, Nat.reduceEqDiff, Nat.reduceBEq, Nat.reduceMod, Nat.reduceDiv, Int.reduceToNat, reduceCtorEq, Int.reduceLT, Int.reduceLE, Int.reduceGT, Int.reduceGE, Int.reduceAdd, Int.reduceSub, Int.reduceMul, Int.reduceNeg, Int.reduceEq, Int.reduceNe, Int.reduceBNe, Int.reduceBEq, Int.reduceDiv, u]
  refine ex_iter [1, 3] (fun j : Nat => ⟨[(1, .var 1 0), (3, .int .i64 ((j : Int) - 1))], [(1, [.int .u64 (lim n 0), .int .u64 (lim n 1), .int .u64 (lim n 2), .int .u64 (lim n 3)])]⟩) (fun j => j ≤ 256 ∧ n < 2 ^ j) (fun j => j) 256 ?_ ?_ ?_
  · simp only [ASt.keep, consIf, keepL, keepV, AV.isBot, List.contains_cons, List.contains_nil, Nat.reduceBEq, Bool.or_false, Bool.false_or, Bool.or_true, Bool.true_or, beq_self_eq_true, Bool.false_eq_true, ↓reduceIte, if_false, if_true]
    rfl
  · exact ⟨Nat.le_refl _, by have e : (2 : Nat) ^ 256 = U := by { unfold U; decide }
                             omega⟩
  · rintro r j ⟨hj, hlt⟩ next
    simp only [go_sem, ↓reduceIte, Nat.reduceLT, Nat.reduceLeDiff, Nat.reduceAdd, Nat.reduceSub, Nat.reduceMul, Nat.reduceEqDiff, Nat.reduceBEq, Nat.reduceMod, Nat.reduceDiv, Int.reduceToNat, reduceCtorEq, Int.reduceLT, Int.reduceLE, Int.reduceGT, Int.reduceGE, Int.reduceAdd, Int.reduceSub, Int.reduceMul, Int.reduceNeg, Int.reduceEq, Int.reduceNe, Int.reduceBNe, Int.reduceBEq, Int.reduceDiv]
    refine ex_br (fun hc => ?_) (fun hc => ?_)
    · obtain ⟨k, rfl⟩ : ∃ k, j = k + 1 := ⟨j - 1, by simp at hc; omega⟩
      have e1 : ((k + 1 : Nat) : Int) - 1 = (k : Int) := by omega
      have hb := c_ref1_Bit n k hn (by omega)
      unfold u at hb
      simp only [go_sem, ↓reduceIte, Nat.reduceLT, Nat.reduceLeDiff, Nat.reduceAdd, Nat.reduceSub, Nat.reduceMul, Nat.reduceEqDiff, Nat.reduceBEq, Nat.reduceMod, Nat.reduceDiv, Int.reduceToNat, reduceCtorEq, Int.reduceLT, Int.reduceLE, Int.reduceGT, Int.reduceGE, Int.reduceAdd, Int.reduceSub, Int.reduceMul, Int.reduceNeg, Int.reduceEq, Int.reduceNe, Int.reduceBNe, Int.reduceBEq, Int.reduceDiv, e1]
      refine ex_call (by exact hb) ?_
      simp only [go_sem, ↓reduceIte, Nat.reduceLT, Nat.reduceLeDiff, Nat.reduceAdd, Nat.reduceSub, Nat.reduceMul, Nat.reduceEqDiff, Nat.reduceBEq, Nat.reduceMod, Nat.reduceDiv, Int.reduceToNat, reduceCtorEq, Int.reduceLT, Int.reduceLE, Int.reduceGT, Int.reduceGE, Int.reduceAdd, Int.reduceSub, Int.reduceMul, Int.reduceNeg, Int.reduceEq, Int.reduceNe, Int.reduceBNe, Int.reduceBEq, Int.reduceDiv]
      refine ex_br (fun hd => ?_) (fun hd => ?_)
      · rw [bits_top hlt hd]
        simp only [go_sem, ↓reduceIte, Nat.reduceLT, Nat.reduceLeDiff, Nat.reduceAdd, Nat.reduceSub, Nat.reduceMul, Nat.reduceEqDiff, Nat.reduceBEq, Nat.reduceMod, Nat.reduceDiv, Int.reduceToNat, reduceCtorEq, Int.reduceLT, Int.reduceLE, Int.reduceGT, Int.reduceGE, Int.reduceAdd, Int.reduceSub, Int.reduceMul, Int.reduceNeg, Int.reduceEq, Int.reduceNe, Int.reduceBNe, Int.reduceBEq, Int.reduceDiv, wi64_nat k (by omega)]
        refine finOne ?_ (fun _ e => by cases e)
        show resOf _ _ [.tmp 2] = _
        simp only [go_sem, ↓reduceIte, Nat.reduceLT, Nat.reduceLeDiff, Nat.reduceAdd, Nat.reduceSub, Nat.reduceMul, Nat.reduceEqDiff, Nat.reduceBEq, Nat.reduceMod, Nat.reduceDiv, Int.reduceToNat, reduceCtorEq, Int.reduceLT, Int.reduceLE, Int.reduceGT, Int.reduceGE, Int.reduceAdd, Int.reduceSub, Int.reduceMul, Int.reduceNeg, Int.reduceEq, Int.reduceNe, Int.reduceBNe, Int.reduceBEq, Int.reduceDiv]
      · have w : IntKind.i64.wrap ((k : Int) - 1) = (k : Int) - 1 := wi64 (by omega) (by omega)
        simp only [go_sem, ↓reduceIte, Nat.reduceLT, Nat.reduceLeDiff, Nat.reduceAdd, Nat.reduceSub, Nat.reduceMul, Nat.reduceEqDiff, Nat.reduceBEq, Nat.reduceMod, Nat.reduceDiv, Int.reduceToNat, reduceCtorEq, Int.reduceLT, Int.reduceLE, Int.reduceGT, Int.reduceGE, Int.reduceAdd, Int.reduceSub, Int.reduceMul, Int.reduceNeg, Int.reduceEq, Int.reduceNe, Int.reduceBNe, Int.reduceBEq, Int.reduceDiv, w]
        refine next k _ ⟨by omega, bits_down hlt hd⟩ (by omega) ?_
        simp only [ASt.keep, consIf, keepL, keepV, AV.isBot, List.contains_cons, List.contains_nil, Nat.reduceBEq, Bool.or_false, Bool.false_or, Bool.or_true, Bool.true_or, beq_self_eq_true, Bool.false_eq_true, ↓reduceIte, if_false, if_true]
    · obtain rfl : j = 0 := by simp at hc; omega
      obtain rfl : n = 0 := by simp at hlt; omega
      simp only [go_sem, ↓reduceIte, Nat.reduceLT, Nat.reduceLeDiff, Nat.reduceAdd, Nat.reduceSub, Nat.reduceMul, Nat.reduceEqDiff, Nat.reduceBEq, Nat.reduceMod, Nat.reduceDiv, Int.reduceToNat, reduceCtorEq, Int.reduceLT, Int.reduceLE, Int.reduceGT, Int.reduceGE, Int.reduceAdd, Int.reduceSub, Int.reduceMul, Int.reduceNeg, Int.reduceEq, Int.reduceNe, Int.reduceBNe, Int.reduceBEq, Int.reduceDiv]
      refine finOne ?_ (fun _ e => by cases e)
      show resOf _ _ [.tmp 2] = _
      simp only [go_sem, ↓reduceIte, Nat.reduceLT, Nat.reduceLeDiff, Nat.reduceAdd, Nat.reduceSub, Nat.reduceMul, Nat.reduceEqDiff, Nat.reduceBEq, Nat.reduceMod, Nat.reduceDiv, Int.reduceToNat, reduceCtorEq, Int.reduceLT, Int.reduceLE, Int.reduceGT, Int.reduceGE, Int.reduceAdd, Int.reduceSub, Int.reduceMul, Int.reduceNeg, Int.reduceEq, Int.reduceNe, Int.reduceBNe, Int.reduceBEq, Int.reduceDiv]
      rfl
/-! Out of bytes, the highest first. -/
theorem limN_top (M b k j : Nat) (hb : b < 256) : limN (M * 256 ^ (k + 1) + b * 256 ^ k) j = if j = k / 8 then limN (M * 256 ^ (k + 1)) j ||| (b * 2 ^ (8 * (k % 8))) else limN (M * 256 ^ (k + 1)) j := by
  have e256 : ∀ k, (256 : Nat) ^ k = 2 ^ (8 * k) := fun k => by rw [show (256 : Nat) = 2 ^ 8 by decide, ← Nat.pow_mul]
  have hM : (18446744073709551616 : Nat) = 2 ^ 64 := by decide
  unfold limN
  split
  · rename_i e
    subst e
    have hq : 8 * (k % 8) + 8 ≤ 64 := by omega
    have e1 : (256 : Nat) ^ (k + 1) = 2 ^ (64 * (k / 8)) * 2 ^ (8 * (k % 8) + 8) := by
      rw [e256, ← Nat.pow_add]; congr 1; omega
    have e2 : (256 : Nat) ^ k = 2 ^ (64 * (k / 8)) * 2 ^ (8 * (k % 8)) := by
      rw [e256, ← Nat.pow_add]; congr 1; omega
    have hA : 0 < 2 ^ (64 * (k / 8)) := Nat.two_pow_pos _
    rw [e1, e2, show M * (2 ^ (64 * (k / 8)) * 2 ^ (8 * (k % 8) + 8)) = 2 ^ (64 * (k / 8)) * (M * 2 ^ (8 * (k % 8) + 8)) by rw [Nat.mul_left_comm],
      show b * (2 ^ (64 * (k / 8)) * 2 ^ (8 * (k % 8))) = 2 ^ (64 * (k / 8)) * (b * 2 ^ (8 * (k % 8))) by rw [Nat.mul_left_comm], ← Nat.mul_add, Nat.mul_div_cancel_left _ hA, Nat.mul_div_cancel_left _ hA]
    generalize 8 * (k % 8) = q at *
    have hs : 2 ^ 64 = 2 ^ (q + 8) * 2 ^ (64 - q - 8) := by rw [← Nat.pow_add]; congr 1; omega
    have hy : b * 2 ^ q < 2 ^ (q + 8) := by
      rw [Nat.pow_add, Nat.mul_comm (2 ^ q)]
      exact Nat.mul_lt_mul_of_pos_right hb (Nat.two_pow_pos q)
    have h1 : M * 2 ^ (q + 8) % 2 ^ 64 = 2 ^ (q + 8) * (M % 2 ^ (64 - q - 8)) := by
      rw [hs, Nat.mul_comm M, Nat.mul_mod_mul_left]
    have h2 : (M * 2 ^ (q + 8) + b * 2 ^ q) % 2 ^ 64 = 2 ^ (q + 8) * (M % 2 ^ (64 - q - 8)) + b * 2 ^ q := by
      rw [hs, Nat.mod_mul]
      have e3 : (M * 2 ^ (q + 8) + b * 2 ^ q) % 2 ^ (q + 8) = b * 2 ^ q := by
        rw [Nat.add_comm, Nat.add_mul_mod_self_right, Nat.mod_eq_of_lt hy]
      have e4 : (M * 2 ^ (q + 8) + b * 2 ^ q) / 2 ^ (q + 8) = M := by
        rw [Nat.mul_comm M, Nat.mul_add_div (Nat.two_pow_pos _), Nat.div_eq_of_lt hy, Nat.add_zero]
      rw [e3, e4, Nat.add_comm]
    rw [hM, h1, h2, Nat.two_pow_add_eq_or_of_lt hy]
  · rename_i e
    rcases Nat.lt_or_gt_of_ne e with h | h
    · have e1 : (256 : Nat) ^ k = 2 ^ (64 * j) * (2 ^ 64 * 2 ^ (8 * k - 64 * j - 64)) := by
        rw [e256, ← Nat.pow_add, ← Nat.pow_add]; congr 1; omega
      rw [show b * 256 ^ k = 2 ^ (64 * j) * (2 ^ 64 * (2 ^ (8 * k - 64 * j - 64) * b)) by
        rw [e1, Nat.mul_comm b, Nat.mul_assoc, Nat.mul_assoc], Nat.add_mul_div_left _ _ (Nat.two_pow_pos _), hM, Nat.add_mul_mod_self_left]
    · have e1 : (2 : Nat) ^ (64 * j) = 256 ^ (k + 1) * 2 ^ (64 * j - 8 * (k + 1)) := by
        rw [e256, ← Nat.pow_add]; congr 1; omega
      have hp : 0 < 256 ^ (k + 1) := Nat.pow_pos (by decide)
      have hlt : b * 256 ^ k < 256 ^ (k + 1) := by
        rw [Nat.pow_succ, Nat.mul_comm (256 ^ k)]
        exact Nat.mul_lt_mul_of_pos_right hb (Nat.pow_pos (by decide))
      rw [e1, ← Nat.div_div_eq_div_mul, ← Nat.div_div_eq_div_mul, Nat.mul_comm M, Nat.mul_add_div hp, Nat.div_eq_of_lt hlt, Nat.add_zero, Nat.mul_div_cancel_left _ hp]
theorem limbL_top (M b k : Nat) (hb : b < 256) (hk : k < 32) :
    (limbL (M * 256 ^ (k + 1))).take (k / 8) ++ [.int .u64 ((limN (M * 256 ^ (k + 1)) (k / 8) ||| (b * 2 ^ (8 * (k % 8))) : Nat) : Int)] ++ (limbL (M * 256 ^ (k + 1))).drop (k / 8 + 1) = limbL (M * 256 ^ (k + 1) + b * 256 ^ k) := by
  have h := fun j => limN_top M b k j hb
  conv => rhs; unfold limbL; rw [lim_limN _ 0, lim_limN _ 1, lim_limN _ 2, lim_limN _ 3, h 0, h 1, h 2, h 3]
  unfold limbL
  obtain e | e | e | e : k / 8 = 0 ∨ k / 8 = 1 ∨ k / 8 = 2 ∨ k / 8 = 3 := by omega
  all_goals rw [e]; rfl
theorem c_ref1_Take (s : List UInt8) (hs : s.length ≤ 4294967296) : Contract Try.prog 49 [.str s] (.tup [u (takeU s).1, .bool (takeU s).2]) := by
  refine contract_of (C := cf 49 [0, 2, 3, 4, 5, 6, 19, 24] (fun _ => [])) (cf_ok _ _ _) (fn := Try.f49) Try.func49 (by kernel_rfl) rfl (by kernel_rfl) (by simp [cf]) (plain1 (.str _)) (by decide) (cellsOk (by kernel_rfl)) ?_
  have bad : s.length > 32 ∨ s.head? = some 0 → takeU s = (0, false) := fun h => by unfold takeU; rw [if_pos h]
  have good : ¬ (s.length > 32 ∨ s.head? = some 0) → takeU s = (numOf s, true) := fun h => by unfold takeU; rw [if_neg h]
  rcases Decidable.em (s.length > 32) with hl | hl
  · rw [bad (.inl hl), u_zero]
    simp only [go_sem, ↓reduceIte, Nat.reduceLT, Nat.reduceLeDiff, Nat.reduceAdd, Nat.reduceSub, Nat.reduceMul, Nat.reduceEqDiff, Nat.reduceBEq, Nat.reduceMod, Nat.reduceDiv, Int.reduceToNat, reduceCtorEq, Int.reduceLT, Int.reduceLE, Int.reduceGT, Int.reduceGE, Int.reduceAdd, Int.reduceSub, Int.reduceMul, Int.reduceNeg, Int.reduceEq, Int.reduceNe, Int.reduceBNe, Int.reduceBEq, Int.reduceDiv, decide_eq_true (show (s.length : Int) > 32 by omega)]
    refine finTup ?_
    show resOf _ _ [.cell 2 45, .tmp 3] = _
    simp only [go_sem, ↓reduceIte, Nat.reduceLT, Nat.reduceLeDiff, Nat.reduceAdd, Nat.reduceSub, Nat.reduceMul, Nat.reduceEqDiff, Nat.reduceBEq, Nat.reduceMod, Nat.reduceDiv, Int.reduceToNat, reduceCtorEq, Int.reduceLT, Int.reduceLE, Int.reduceGT, Int.reduceGE, Int.reduceAdd, Int.reduceSub, Int.reduceMul, Int.reduceNeg, Int.reduceEq, Int.reduceNe, Int.reduceBNe, Int.reduceBEq, Int.reduceDiv]
  · have el := decide_eq_false (show ¬ (s.length : Int) > 32 by omega)
    rcases Decidable.em (s.head? = some 0) with hz | hz
    · rw [bad (.inr hz), u_zero]
      have h0 : s[0]? = some 0 := by rw [← List.head?_eq_getElem?]; exact hz
      have hpos : (0 : Int) < s.length := by cases s <;> first | (rw [List.length_cons]; omega) | cases hz
      have ep := decide_eq_true (show (s.length : Int) > 0 from hpos)
      simp only [go_sem, ↓reduceIte, Nat.reduceLT, Nat.reduceLeDiff, Nat.reduceAdd, Nat.reduceSub, Nat.reduceMul, Nat.reduceEqDiff, Nat.reduceBEq, Nat.reduceMod, Nat.reduceDiv, Int.reduceToNat, reduceCtorEq, Int.reduceLT, Int.reduceLE, Int.reduceGT, Int.reduceGE, Int.reduceAdd, Int.reduceSub, Int.reduceMul, Int.reduceNeg, Int.reduceEq, Int.reduceNe, Int.reduceBNe, Int.reduceBEq, Int.reduceDiv, el, ep, h0, hpos, u8z]
      refine finTup ?_
      show resOf _ _ [.cell 2 45, .tmp 3] = _
      simp only [go_sem, ↓reduceIte, Nat.reduceLT, Nat.reduceLeDiff, Nat.reduceAdd, Nat.reduceSub, Nat.reduceMul, Nat.reduceEqDiff, Nat.reduceBEq, Nat.reduceMod, Nat.reduceDiv, Int.reduceToNat, reduceCtorEq, Int.reduceLT, Int.reduceLE, Int.reduceGT, Int.reduceGE, Int.reduceAdd, Int.reduceSub, Int.reduceMul, Int.reduceNeg, Int.reduceEq, Int.reduceNe, Int.reduceBNe, Int.reduceBEq, Int.reduceDiv]
    · rw [good (by simp [hl, hz])]
      cases hs0 : s with
      | nil =>
        rw [hs0] at el
        simp only [go_sem, ↓reduceIte, Nat.reduceLT, Nat.reduceLeDiff, Nat.reduceAdd, Nat.reduceSub, Nat.reduceMul, Nat.reduceEqDiff, Nat.reduceBEq, Nat.reduceMod, Nat.reduceDiv, Int.reduceToNat, reduceCtorEq, Int.reduceLT, Int.reduceLE, Int.reduceGT, Int.reduceGE, Int.reduceAdd, Int.reduceSub, Int.reduceMul, Int.reduceNeg, Int.reduceEq, Int.reduceNe, Int.reduceBNe, Int.reduceBEq, Int.reduceDiv, Int.cast_ofNat_Int]
        refine ex_loop [0, 2, 4, 5] 1 ?_
        simp only [go_sem, ↓reduceIte, Nat.reduceLT, Nat.reduceLeDiff, Nat.reduceAdd, Nat.reduceSub, Nat.reduceMul, Nat.reduceEqDiff, Nat.reduceBEq, Nat.reduceMod, Nat.reduceDiv, Int.reduceToNat, reduceCtorEq, Int.reduceLT, Int.reduceLE, Int.reduceGT, Int.reduceGE, Int.reduceAdd, Int.reduceSub, Int.reduceMul, Int.reduceNeg, Int.reduceEq, Int.reduceNe, Int.reduceBNe, Int.reduceBEq, Int.reduceDiv, ex_round, Int.cast_ofNat_Int]
        refine finTup ?_
        show resOf _ _ [.cell 2 45, .tmp 3] = _
        simp only [go_sem, ↓reduceIte, Nat.reduceLT, Nat.reduceLeDiff, Nat.reduceAdd, Nat.reduceSub, Nat.reduceMul, Nat.reduceEqDiff, Nat.reduceBEq, Nat.reduceMod, Nat.reduceDiv, Int.reduceToNat, reduceCtorEq, Int.reduceLT, Int.reduceLE, Int.reduceGT, Int.reduceGE, Int.reduceAdd, Int.reduceSub, Int.reduceMul, Int.reduceNeg, Int.reduceEq, Int.reduceNe, Int.reduceBNe, Int.reduceBEq, Int.reduceDiv]
        rfl
      | cons b0 t0 =>
        rw [← hs0]
        obtain ⟨b, h0, hbz, hpos⟩ : ∃ b, s[0]? = some b ∧ ((b.toNat : Int) == 0) = false ∧ (0 : Int) < s.length := by
          subst hs0
          exact ⟨b0, rfl, by
            have : b0 ≠ 0 := fun e => hz (by rw [e]; rfl)
            have : b0.toNat ≠ 0 := fun e => this (UInt8.toNat_inj.1 (by rw [e]; rfl))
            simpa using this, by rw [List.length_cons]; omega⟩
        have ep := decide_eq_true (show (s.length : Int) > 0 from hpos)
        simp only [go_sem, ↓reduceIte, Nat.reduceLT, Nat.reduceLeDiff, Nat.reduceAdd, Nat.reduceSub, Nat.reduceMul, Nat.reduceEqDiff, Nat.reduceBEq, Nat.reduceMod, Nat.reduceDiv, Int.reduceToNat, reduceCtorEq, Int.reduceLT, Int.reduceLE, Int.reduceGT, Int.reduceGE, Int.reduceAdd, Int.reduceSub, Int.reduceMul, Int.reduceNeg, Int.reduceEq, Int.reduceNe, Int.reduceBNe, Int.reduceBEq, Int.reduceDiv, el, ep, h0, hpos, hbz]
        refine ex_iter [0, 2, 4, 5] (fun i : Nat => ⟨[(0, .str s), (2, .var 2 0), (4, .var 4 0), (5, .int .i64 i)], [(2, limbL 0), (4, limbL (numOf (s.take i) * 256 ^ (s.length - i)))]⟩) (fun i => i ≤ s.length) (fun i => s.length - i) 0 ?_ ?_ ?_
        · simp only [ASt.keep, consIf, keepL, keepV, AV.isBot, List.contains_cons, List.contains_nil, Nat.reduceBEq, Bool.or_false, Bool.false_or, Bool.or_true, Bool.true_or, beq_self_eq_true, Bool.false_eq_true, ↓reduceIte, if_false, if_true]
          rw [List.take_zero, numOf_nil, Nat.zero_mul, limbL_zero]
          rfl
        · exact Nat.zero_le _
        · intro r i hi next
          simp only [go_sem, ↓reduceIte, Nat.reduceLT, Nat.reduceLeDiff, Nat.reduceAdd, Nat.reduceSub, Nat.reduceMul, Nat.reduceEqDiff, Nat.reduceBEq, Nat.reduceMod, Nat.reduceDiv, Int.reduceToNat, reduceCtorEq, Int.reduceLT, Int.reduceLE, Int.reduceGT, Int.reduceGE, Int.reduceAdd, Int.reduceSub, Int.reduceMul, Int.reduceNeg, Int.reduceEq, Int.reduceNe, Int.reduceBNe, Int.reduceBEq, Int.reduceDiv]
          refine ex_br (fun h => ?_) (fun h => ?_)
          · have hlt : i < s.length := by simpa using h
            obtain ⟨b, eb⟩ : ∃ b, s[i]? = some b := ⟨_, List.getElem?_eq_getElem (by omega)⟩
            obtain ⟨k, hk⟩ : ∃ k, k = s.length - 1 - i := ⟨_, rfl⟩
            have wq : (k : Int).tdiv 8 = ((k / 8 : Nat) : Int) := rfl
            have wr : (k : Int).tmod 8 = ((k % 8 : Nat) : Int) := rfl
            have wq2 := wi64n (k / 8) (by omega)
            have wm : IntKind.i64.wrap (8 * ((k % 8 : Nat) : Int)) = ((8 * (k % 8) : Nat) : Int) := by rw [wi64 (by omega) (by omega)]; omega
            have w0 : IntKind.i64.wrap ((s.length : Int) - 1) = (s.length : Int) - 1 := wi64 (by omega) (by omega)
            have ws2 : IntKind.i64.wrap ((s.length : Int) - 1 - (i : Int)) = (k : Int) := by rw [wi64 (by omega) (by omega)]; omega
            have hbl : b.toNat < 256 := b.toNat_lt
            have wb : IntKind.u64.wrap (b.toNat : Int) = (b.toNat : Int) := wu64 (by omega) (by omega)
            have hdec : decide (k / 8 ≤ 3) = true := decide_eq_true (by omega)
            have hshl : IntKind.u64.wrap ((b.toNat : Int) * 2 ^ (min (8 * (k % 8)) 64)) = ((b.toNat * 2 ^ (8 * (k % 8)) : Nat) : Int) := by
              have := shl_nat (i := k) hbl
              rw [Nat.mul_comm 8]; exact this
            have hshb : b.toNat * 2 ^ (8 * (k % 8)) < 18446744073709551616 := by
              have := shl_byte (i := k) hbl
              rw [Nat.mul_comm 8]; exact this
            have hpow : s.length - i = k + 1 := by omega
            have hd : numOf (s.take i) * 256 ^ (k + 1) + b.toNat * 256 ^ k = numOf (s.take (i + 1)) * 256 ^ (s.length - (i + 1)) := by
              rw [List.take_add_one, eb]
              show _ = numOf (s.take i ++ [b]) * _
              rw [numOf_snoc, show s.length - (i + 1) = k by omega, Nat.add_mul, Nat.pow_succ, Nat.mul_assoc, Nat.mul_comm 256]
            rw [hpow]
            simp only [go_sem, ↓reduceIte, Nat.reduceLT, Nat.reduceLeDiff, Nat.reduceAdd, Nat.reduceSub, Nat.reduceMul, Nat.reduceEqDiff, Nat.reduceBEq, Nat.reduceMod, Nat.reduceDiv, Int.reduceToNat, reduceCtorEq, Int.reduceLT, Int.reduceLE, Int.reduceGT, Int.reduceGE, Int.reduceAdd, Int.reduceSub, Int.reduceMul, Int.reduceNeg, Int.reduceEq, Int.reduceNe, Int.reduceBNe, Int.reduceBEq, Int.reduceDiv, w0, ws2]
            refine ex_draw [16] [] (.quiet 0 (.quiet 1 (.quiet 2 (.quiet 3 (.quiet 4 (.quiet 5 (.quiet 6 (.quiet 7 (.quiet 8 (.quiet 9 (.quiet 10 (.quiet 11 (.quiet 12 (.quiet 13 (.quiet 14 (.quiet 15 (.unlock (.one 16 (.fin))))))))))))))))))) (by kernel_rfl) ?_
            simp only [go_sem, ↓reduceIte, Nat.reduceLT, Nat.reduceLeDiff, Nat.reduceAdd, Nat.reduceSub, Nat.reduceMul, Nat.reduceEqDiff, Nat.reduceBEq, Nat.reduceMod, Nat.reduceDiv, Int.reduceToNat, reduceCtorEq, Int.reduceLT, Int.reduceLE, Int.reduceGT, Int.reduceGE, Int.reduceAdd, Int.reduceSub, Int.reduceMul, Int.reduceNeg, Int.reduceEq, Int.reduceNe, Int.reduceBNe, Int.reduceBEq, Int.reduceDiv, wq, wr, wq2, wm, Int.toNat_natCast, eb, limbL_get _ _ (show k / 8 < 4 by omega)]
            repeat with_reducible refine And.intro (by first | omega | (simp only [List.length_cons, List.length_append, List.length_nil, List.length_map, List.length_take, List.length_drop, List.length_set]; omega)) ?_
            simp only [go_sem, ↓reduceIte, Nat.reduceLT, Nat.reduceLeDiff, Nat.reduceAdd, Nat.reduceSub, Nat.reduceMul, Nat.reduceEqDiff, Nat.reduceBEq, Nat.reduceMod, Nat.reduceDiv, Int.reduceToNat, reduceCtorEq, Int.reduceLT, Int.reduceLE, Int.reduceGT, Int.reduceGE, Int.reduceAdd, Int.reduceSub, Int.reduceMul, Int.reduceNeg, Int.reduceEq, Int.reduceNe, Int.reduceBNe, Int.reduceBEq, Int.reduceDiv, limbL_len, hdec, wb, hshl, or_nat2 (limN_lt _ _) hshb, limbL_top _ _ _ hbl (show k < 32 by omega), hd]
            refine next (i + 1) _ (by omega) (by omega) ?_
            simp only [ASt.keep, consIf, keepL, keepV, AV.isBot, List.contains_cons, List.contains_nil, Nat.reduceBEq, Bool.or_false, Bool.false_or, Bool.or_true, Bool.true_or, beq_self_eq_true, Bool.false_eq_true, ↓reduceIte, if_false, if_true]
            rw [wi64_nat i (by omega)]
          · have hge : i = s.length := by simp at h; omega
            subst hge
            rw [Nat.sub_self, List.take_length, Nat.pow_zero, Nat.mul_one]
            simp only [go_sem, ↓reduceIte, Nat.reduceLT, Nat.reduceLeDiff, Nat.reduceAdd, Nat.reduceSub, Nat.reduceMul, Nat.reduceEqDiff, Nat.reduceBEq, Nat.reduceMod, Nat.reduceDiv, Int.reduceToNat, reduceCtorEq, Int.reduceLT, Int.reduceLE, Int.reduceGT, Int.reduceGE, Int.reduceAdd, Int.reduceSub, Int.reduceMul, Int.reduceNeg, Int.reduceEq, Int.reduceNe, Int.reduceBNe, Int.reduceBEq, Int.reduceDiv, limbL]
            refine finTup ?_
            show resOf _ _ [.cell 2 45, .tmp 3] = _
            simp only [go_sem, ↓reduceIte, Nat.reduceLT, Nat.reduceLeDiff, Nat.reduceAdd, Nat.reduceSub, Nat.reduceMul, Nat.reduceEqDiff, Nat.reduceBEq, Nat.reduceMod, Nat.reduceDiv, Int.reduceToNat, reduceCtorEq, Int.reduceLT, Int.reduceLE, Int.reduceGT, Int.reduceGE, Int.reduceAdd, Int.reduceSub, Int.reduceMul, Int.reduceNeg, Int.reduceEq, Int.reduceNe, Int.reduceBNe, Int.reduceBEq, Int.reduceDiv, u]
end Go.Proofs.Ytdenldjlijoeoaa.VA
end
section
/- Transactions out of bytes. -/
namespace Go.Proofs.Ytdenldjlijoeoaa.VA
set_option maxRecDepth 10000
set_option linter.unusedSimpArgs false
set_option linter.unusedVariables false
set_option maxHeartbeats 16000000

theorem lim0 {n : Nat} (h : n < 18446744073709551616) : lim n 0 = n ∧ lim n 1 = 0 ∧ lim n 2 = 0 ∧ lim n 3 = 0 := by
  unfold lim
  refine ⟨?_, ?_, ?_, ?_⟩
  · rw [Nat.mul_zero, Nat.pow_zero, Nat.div_one, Nat.mod_eq_of_lt h]
  all_goals
    rw [Nat.div_eq_of_lt (Nat.lt_of_lt_of_le h (by decide))]; rfl
theorem limN_zero {n : Nat} (hn : n < U) (h1 : limN n 1 = 0) (h2 : limN n 2 = 0) (h3 : limN n 3 = 0) : n < 18446744073709551616 := by
  obtain ⟨a, b, c, d, ha, hb, hc, hd, rfl⟩ := u_limbs n hn
  obtain ⟨e0, e1, e2, e3⟩ := lim_val ha hb hc hd
  rw [lim_limN] at e1 e2 e3
  rw [h1] at e1
  rw [h2] at e2
  rw [h3] at e3
  omega
theorem limN_self {n : Nat} (h : n < 18446744073709551616) : limN n 0 = n := by
  unfold limN
  rw [Nat.mul_zero, Nat.pow_zero, Nat.div_one, Nat.mod_eq_of_lt h]
theorem limN_high {n : Nat} (h : n < 18446744073709551616) (j : Nat) (hj : 1 ≤ j) : limN n j = 0 := by
  unfold limN
  have : 18446744073709551616 ≤ 2 ^ (64 * j) := by
    rw [show (18446744073709551616 : Nat) = 2 ^ 64 by decide]
    exact Nat.pow_le_pow_right (by decide) (by omega)
  rw [Nat.div_eq_of_lt (by omega)]
theorem or_zero {x y : Nat} (hx : x < 18446744073709551616) (hy : y < 18446744073709551616) : (x ||| y = 0 ↔ x = 0 ∧ y = 0) := Nat.or_eq_zero_iff
/-- What tx.small tells of a number. -/
def smallOf (n : Nat) : AV := .tup [.int .i64 (IntKind.i64.wrap (lim n 0)), .bool (smallU n)]
theorem c_tx_small (n : Nat) (hn : n < U) : Contract Try.prog 41 [u n] (smallOf n) := by
  unfold smallOf
  have l0 := limN_lt n 0
  have l1 := limN_lt n 1
  have l2 := limN_lt n 2
  have l3 := limN_lt n 3
  have h12 : limN n 1 ||| limN n 2 < 18446744073709551616 := Nat.or_lt_two_pow (n := 64) l1 l2
  refine contract_of (C := cf 21 [1, 2, 3] (fun _ => [])) (cf_ok _ _ _) (fn := Try.f41) Try.func41 (by kernel_rfl) rfl (by kernel_rfl) (by simp [cf]) (plain1 (u_plain n)) (by decide) (noCell (by kernel_rfl)) ?_
  simp only [go_sem, seval, u]
  refine ex_draw [] [] (.quiet 0 (.quiet 1 (.quiet 2 (.quiet 3 (.quiet 4 (.quiet 5 (.quiet 6 (.quiet 7 (.quiet 8 (.quiet 9 (.quiet 10 (.quiet 11 (.quiet 12 (.quiet 13 (.quiet 14 (.quiet 15 (.quiet 16 (.quiet 17 (.quiet 18 (.fin)))))))))))))))))))) (by kernel_rfl) ?_
  simp only [go_sem, seval, lim_limN, or_nat2 l1 l2, or_nat2 h12 l3, Int.cast_ofNat_Int]
  refine ex_split (fun hz => ?_) (fun hz => ?_)
  · have hz : limN n 1 ||| limN n 2 ||| limN n 3 = 0 := by simpa using hz
    obtain ⟨hz1, z3⟩ := Nat.or_eq_zero_iff.1 hz
    obtain ⟨z1, z2⟩ := Nat.or_eq_zero_iff.1 hz1
    have hlt := limN_zero hn z1 z2 z3
    have hs := limN_self hlt
    have e1 : decide ((limN n 0 : Int) ≤ 9223372036854775807) = smallU n := by unfold smallU; rw [hs]; exact decide_congr (by omega)
    rw [hz]
    simp only [go_sem, seval, e1, Int.cast_ofNat_Int]
    refine finTup ?_
    show resOf _ _ [.tmp 2, .tmp 3] = _
    simp only [go_sem, seval]
  · have hz : ¬ (limN n 1 ||| limN n 2 ||| limN n 3 = 0) := by simpa using hz
    have e1 : smallU n = false := by
      unfold smallU
      refine decide_eq_false fun h => hz ?_
      have hlt : n < 18446744073709551616 := by omega
      rw [limN_high hlt 1 (by omega), limN_high hlt 2 (by omega), limN_high hlt 3 (by omega)]; rfl
    have e2 : (((limN n 1 ||| limN n 2 ||| limN n 3 : Nat) : Int) == 0) = false := by simpa using hz
    rw [e1]
    simp only [go_sem, seval, e2]
    refine finTup ?_
    show resOf _ _ [.tmp 2, .tmp 3] = _
    simp only [go_sem, seval]
theorem c_ref7_wide (it : ItemD) (hs : it.text.length ≤ 4294967296) : Contract Try.prog 30 [.agg [.bool it.list, .str it.text, .sl false 3 (it.items.map ItemD.av)]] (.tup [u (if it.list = true then 0 else (takeU it.text).1), .bool (!it.list && (takeU it.text).2)]) := by
  have h := c_ref1_Take it.text hs
  have hp : Plain (.agg [.bool it.list, .str it.text, .sl false 3 (it.items.map ItemD.av)]) := by have := it.plain; rw [it.av_eq] at this; exact this
  have hpl : ∀ b, it.list = b → Plain (.agg [.bool b, .str it.text, .sl false 3 (it.items.map ItemD.av)]) := fun b e => by subst e; exact hp
  cases hl : it.list with
  | true =>
    rw [if_pos rfl, u_zero]
    refine contract_of (C := cf 12 [1, 2, 3, 5] (fun _ => [])) (cf_ok _ _ _) (fn := Try.f30) Try.func30 (by kernel_rfl) rfl (by kernel_rfl) (by simp [cf]) (plain1 (hpl _ hl)) (by decide) (cellsOk (by kernel_rfl)) ?_
    simp only [go_sem, seval]
    refine finTup ?_
    show resOf _ _ [.cell 2 45, .tmp 3] = _
    simp only [go_sem, seval]
  | false =>
    rw [if_neg (by simp)]
    unfold u at h ⊢
    refine contract_of (C := cf 12 [1, 2, 3, 5] (fun _ => [])) (cf_ok _ _ _) (fn := Try.f30) Try.func30 (by kernel_rfl) rfl (by kernel_rfl) (by simp [cf]) (plain1 (hpl _ hl)) (by decide) (cellsOk (by kernel_rfl)) ?_
    simp only [go_sem, seval]
    refine ex_call (by exact h) ?_
    simp only [go_sem, seval]
    refine finTup ?_
    show resOf _ _ [.cell 2 45, .tmp 3] = _
    simp only [go_sem, seval]
/-- What the page's small tells: a number of an item that goes not too far. -/
def smallR (it : ItemD) (most : Nat) : Bool := !it.list && (takeU it.text).2 && decide ((takeU it.text).1 ≤ most)
theorem c_ref7_small (it : ItemD) (hs : it.text.length ≤ 4294967296) (most : Nat) (hm : most < 4611686018427387904) : Contract Try.prog 29 [.agg [.bool it.list, .str it.text, .sl false 3 (it.items.map ItemD.av)], .int .i64 most]
    (.tup [.int .i64 (if smallR it most = true then ((takeU it.text).1 : Int) else 0), .bool (smallR it most)]) := by
  have h := c_ref7_wide it hs
  have hp : Plain (.agg [.bool it.list, .str it.text, .sl false 3 (it.items.map ItemD.av)]) := by have := it.plain; rw [it.av_eq] at this; exact this
  have hpl : ∀ b, it.list = b → Plain (.agg [.bool b, .str it.text, .sl false 3 (it.items.map ItemD.av)]) := fun b e => by subst e; exact hp
  unfold smallR
  cases hl : it.list with
  | true =>
    rw [hl, if_pos rfl, u_zero] at h
    refine contract_of (C := cf 30 [1, 2, 4, 5, 6, 7, 26] (fun _ => [])) (cf_ok _ _ _) (fn := Try.f29) Try.func29 (by kernel_rfl) rfl (by kernel_rfl) (by simp [cf]) (plain2 (hpl _ hl) (.int _ _)) (by decide) (noCell (by kernel_rfl)) ?_
    simp only [go_sem, seval]
    refine ex_call (by exact h) ?_
    simp only [go_sem, seval]
    refine finTup ?_
    show resOf _ _ [.tmp 4, .tmp 5] = _
    simp only [go_sem, seval]
  | false =>
    rw [hl, if_neg (by simp)] at h
    have hlt := takeU_lt it.text
    generalize takeU it.text = q at *
    obtain ⟨n, b⟩ := q
    simp only at h hlt ⊢
    have hbits := c_ref1_Bits n hlt
    unfold u at h hbits
    cases b with
    | false =>
      refine contract_of (C := cf 30 [1, 2, 4, 5, 6, 7, 26] (fun _ => [])) (cf_ok _ _ _) (fn := Try.f29) Try.func29 (by kernel_rfl) rfl (by kernel_rfl) (by simp [cf]) (plain2 (hpl _ hl) (.int _ _)) (by decide) (noCell (by kernel_rfl)) ?_
      simp only [go_sem, seval]
      refine ex_call (by exact h) ?_
      simp only [go_sem, seval]
      refine finTup ?_
      show resOf _ _ [.tmp 4, .tmp 5] = _
      simp only [go_sem, seval]
    | true =>
      refine contract_of (C := cf 30 [1, 2, 4, 5, 6, 7, 26] (fun _ => [])) (cf_ok _ _ _) (fn := Try.f29) Try.func29 (by kernel_rfl) rfl (by kernel_rfl) (by simp [cf]) (plain2 (hpl _ hl) (.int _ _)) (by decide) (noCell (by kernel_rfl)) ?_
      simp only [go_sem, seval]
      refine ex_call (by exact h) ?_
      simp only [go_sem, seval]
      refine ex_call (by exact hbits) ?_
      rcases Decidable.em (bitsOf n > 62) with h62 | h62
      · have e1 : decide ((bitsOf n : Int) > 62) = true := decide_eq_true (by omega)
        have e2 : decide (n ≤ most) = false := decide_eq_false fun hle => by
          have := (bits_le n 62).2 (by omega)
          omega
        rw [e2]
        simp only [go_sem, seval, e1]
        refine finTup ?_
        show resOf _ _ [.tmp 4, .tmp 5] = _
        simp only [go_sem, seval]
      · have e1 : decide ((bitsOf n : Int) > 62) = false := decide_eq_false (by omega)
        have hn62 := (bits_le n 62).1 (by omega)
        have l0 : lim n 0 = (n : Int) := by rw [lim_limN, limN_self (by omega)]
        have w : IntKind.i64.wrap (n : Int) = (n : Int) := wi64n n (by omega)
        rcases Decidable.em (n ≤ most) with hle | hle
        · have e3 : decide ((n : Int) > (most : Int)) = false := decide_eq_false (by omega)
          rw [decide_eq_true hle]
          simp only [go_sem, seval, e1, l0, w, e3, Int.cast_ofNat_Int]
          refine finTup ?_
          show resOf _ _ [.tmp 4, .tmp 5] = _
          simp only [go_sem, seval]
        · have e3 : decide ((n : Int) > (most : Int)) = true := decide_eq_true (by omega)
          rw [decide_eq_false hle]
          simp only [go_sem, seval, e1, l0, w, e3, Int.cast_ofNat_Int]
          refine finTup ?_
          show resOf _ _ [.tmp 4, .tmp 5] = _
          simp only [go_sem, seval]
theorem c_takeE (s : List UInt8) (n : Nat) (b : Bool) (h : takeU s = (n, b)) (hs : s.length ≤ 4294967296) : Contract Try.prog 40 [.str s] (.tup [.agg [.int .u64 (lim n 0), .int .u64 (lim n 1), .int .u64 (lim n 2), .int .u64 (lim n 3)], .int .i64 (if b = true then 0 else 1)]) := by
  have := c_u256_Take s hs
  rw [h] at this
  exact this
theorem c_smallE (n : Nat) (hn : n < U) : Contract Try.prog 41 [.agg [.int .u64 (lim n 0), .int .u64 (lim n 1), .int .u64 (lim n 2), .int .u64 (lim n 3)]] (.tup [.int .i64 (IntKind.i64.wrap (lim n 0)), .bool (smallU n)]) := c_tx_small n hn
def zeroTx : TxD := ⟨0, 0, 0, 0, 0, 0, 0, [], []⟩
theorem lim_zero (j : Nat) : lim 0 j = 0 := by unfold lim; rw [Nat.zero_div]; rfl
theorem zero_dull (x y : AV) (hx : Dull x (.sl false 1 [])) (hy : Dull y (.sl false 1 [])) : Dull (.agg [.int .i64 (0 : Int), .int .i64 (0 : Int), .int .u64 (0 : Int), .int .u64 (0 : Int), .int .u64 (0 : Int), .int .u64 (0 : Int), .int .u64 (0 : Int), .int .u64 (0 : Int), .int .u64 (0 : Int), .int .u64 (0 : Int), .int .u64 (0 : Int), .int .u64 (0 : Int), .int .u64 (0 : Int), .int .u64 (0 : Int), .int .u64 (0 : Int), .int .u64 (0 : Int), .int .u64 (0 : Int), .int .u64 (0 : Int), .int .i64 (0 : Int), x, y]) zeroTx.av := by
  unfold TxD.av TxD.cells zeroTx ints strs
  simp only [lim_zero, List.map_nil]
  refine dulls_agg ?_
  repeat' (first | exact Dulls.nil | exact Dull.refl _ | assumption | refine Dulls.cons ?_ ?_)
theorem zero_dullT (x y : AV) (hx : Dull x (.sl true 1 [])) (hy : Dull y (.sl true 1 [])) : Dull (.agg [.int .i64 (0 : Int), .int .i64 (0 : Int), .int .u64 (0 : Int), .int .u64 (0 : Int), .int .u64 (0 : Int), .int .u64 (0 : Int), .int .u64 (0 : Int), .int .u64 (0 : Int), .int .u64 (0 : Int), .int .u64 (0 : Int), .int .u64 (0 : Int), .int .u64 (0 : Int), .int .u64 (0 : Int), .int .u64 (0 : Int), .int .u64 (0 : Int), .int .u64 (0 : Int), .int .u64 (0 : Int), .int .u64 (0 : Int), .int .i64 (0 : Int), x, y]) zeroTx.dull := by
  unfold TxD.dull zeroTx
  simp only [lim_zero, List.map_nil]
  refine dulls_agg ?_
  repeat' (first | exact Dulls.nil | exact Dull.refl _ | assumption | refine Dulls.cons ?_ ?_)
def resTx : Option TxD → AV
  | some t => .tup [t.av, .bool true]
  | none => .tup [zeroTx.av, .bool false]
def resTxT : Option TxD → AV
  | some t => .tup [t.dull, .bool true]
  | none => .tup [zeroTx.dull, .bool false]
theorem readTx_len {l : List ItemD} (h : l.length ≠ 9) : readTx l = none := by
  unfold readTx
  split
  · exact absurd rfl h
  · rfl
theorem nine {α : Type} {l : List α} (h : l.length = 9) : ∃ x0 x1 x2 x3 x4 x5 x6 x7 x8, l = [x0, x1, x2, x3, x4, x5, x6, x7, x8] := by
  match l, h with
  | [x0, x1, x2, x3, x4, x5, x6, x7, x8], _ => exact ⟨x0, x1, x2, x3, x4, x5, x6, x7, x8, rfl⟩
theorem sl3_plain (l : List ItemD) : Plain (.sl false 3 (l.map ItemD.av)) := .sl 3 _ fun c hc => by
  obtain ⟨x, _, rfl⟩ := List.mem_map.1 hc
  exact x.plain
theorem each_eq (it : ItemD) : eachOf it = (eachI it).map ItemD.av := by unfold eachOf eachI; split <;> rfl
theorem repI_plain (sz n : Nat) (es : List AV) (h : ∀ c, c ∈ es → Plain c) : Plain (repI sz n es) := by
  cases n with
  | zero => exact .ext _
  | succ n => exact .own _ _ _ h
def zeroVs : List AV := [.agg [.int .i64 (0 : Int), .int .i64 (0 : Int), .int .u64 (0 : Int), .int .u64 (0 : Int), .int .u64 (0 : Int), .int .u64 (0 : Int), .int .u64 (0 : Int), .int .u64 (0 : Int), .int .u64 (0 : Int), .int .u64 (0 : Int), .int .u64 (0 : Int), .int .u64 (0 : Int), .int .u64 (0 : Int), .int .u64 (0 : Int), .int .u64 (0 : Int), .int .u64 (0 : Int), .int .u64 (0 : Int), .int .u64 (0 : Int), .int .i64 (0 : Int), .sl true 1 [], .sl true 1 []], .bool false]
theorem c_tx_readT (l : List ItemD) (hl : wts l ≤ 8388608) : Contract Try.prog 27 [.sl false 3 (l.map ItemD.av)] (resTxT (readTx l)) := by
  rcases Decidable.em (l.length = 9) with h9 | h9
  · obtain ⟨x0, x1, x2, x3, x4, x5, x6, x7, x8, rfl⟩ := nine h9
    have okx : ∀ x ∈ [x0, x1, x2, x3, x4, x5, x6, x7, x8], x.ok := fun x hx => by
      have := wts_mem hx
      unfold ItemD.ok; omega
    have ok7 : x7.ok := okx x7 (by simp)
    have ok8 : x8.ok := okx x8 (by simp)
    have tl : ∀ x ∈ [x0, x1, x2, x3, x4, x5, x6, x7, x8], x.text.length ≤ 4294967296 := fun x hx => by have := (okx x hx).text; omega
    obtain ⟨n0, b0, q0⟩ : ∃ n b, takeU x0.text = (n, b) := ⟨_, _, rfl⟩
    obtain ⟨n1, b1, q1⟩ : ∃ n b, takeU x1.text = (n, b) := ⟨_, _, rfl⟩
    obtain ⟨n2, b2, q2⟩ : ∃ n b, takeU x2.text = (n, b) := ⟨_, _, rfl⟩
    obtain ⟨n3, b3, q3⟩ : ∃ n b, takeU x3.text = (n, b) := ⟨_, _, rfl⟩
    obtain ⟨n4, b4, q4⟩ : ∃ n b, takeU x4.text = (n, b) := ⟨_, _, rfl⟩
    obtain ⟨n5, b5, q5⟩ : ∃ n b, takeU x5.text = (n, b) := ⟨_, _, rfl⟩
    obtain ⟨n6, b6, q6⟩ : ∃ n b, takeU x6.text = (n, b) := ⟨_, _, rfl⟩
    have t0 := c_takeE x0.text n0 b0 q0 (tl x0 (by simp))
    have t1 := c_takeE x1.text n1 b1 q1 (tl x1 (by simp))
    have t2 := c_takeE x2.text n2 b2 q2 (tl x2 (by simp))
    have t3 := c_takeE x3.text n3 b3 q3 (tl x3 (by simp))
    have t4 := c_takeE x4.text n4 b4 q4 (tl x4 (by simp))
    have t5 := c_takeE x5.text n5 b5 q5 (tl x5 (by simp))
    have t6 := c_takeE x6.text n6 b6 q6 (tl x6 (by simp))
    have l0 : n0 < U := by have := takeU_lt x0.text; rw [q0] at this; exact this
    have l1 : n1 < U := by have := takeU_lt x1.text; rw [q1] at this; exact this
    have l6 : n6 < U := by have := takeU_lt x6.text; rw [q6] at this; exact this
    have hr : readTx [x0, x1, x2, x3, x4, x5, x6, x7, x8] = if (b0 && (b1 && (b2 && (b3 && (b4 && (b5 && b6)))))) = true then (if (smallU n0 && smallU n1 && smallU n6) = true then some (fieldsTx x0 x1 x2 x3 x4 x5 x6 x7 x8) else none) else none := by
      unfold readTx nums
      simp only [List.all_cons, List.all_nil, q0, q1, q2, q3, q4, q5, q6, Bool.and_true]
    rw [hr]
    refine contract_of (C := cf 112 [0, 2, 3, 4, 5, 6, 7, 8, 9, 10, 11, 12, 13, 14, 15, 17, 20, 22, 23, 35, 68, 85, 86, 102, 103] (fun _ => [])) (cf_ok _ _ _) (fn := Try.f27) Try.func27 (by kernel_rfl) rfl (by kernel_rfl) (by simp [cf]) (plain1 (sl3_plain _)) (by decide) (cellsOk (by kernel_rfl)) ?_
    simp only [List.map_cons, List.map_nil, ItemD.av_eq, ItemD.cells]
    simp only [go_sem, seval, Int.cast_ofNat_Int]
    refine ex_loop [0, 2, 4, 22, 86, 103] 8 ?_
    simp only [go_sem, seval, ex_round, Int.cast_ofNat_Int, wi64]
    refine ex_call (by exact t0) ?_
    cases b0
    case' false =>
      simp only [go_sem, seval, Int.cast_ofNat_Int]
      refine finTupD (vs' := zeroVs) ?_ (fins3 (zero_dullT _ _ (.refl _) (.refl _)) _)
      show resOf _ _ [.cell 2 49, .tmp 3] = _
      simp only [go_sem, seval, zeroVs]
    simp only [go_sem, seval, ex_round, Int.cast_ofNat_Int, wi64]
    refine ex_call (by exact t1) ?_
    cases b1
    case' false =>
      simp only [go_sem, seval, Int.cast_ofNat_Int]
      refine finTupD (vs' := zeroVs) ?_ (fins3 (zero_dullT _ _ (.refl _) (.refl _)) _)
      show resOf _ _ [.cell 2 49, .tmp 3] = _
      simp only [go_sem, seval, zeroVs]
    simp only [go_sem, seval, ex_round, Int.cast_ofNat_Int, wi64]
    refine ex_call (by exact t2) ?_
    cases b2
    case' false =>
      simp only [go_sem, seval, Int.cast_ofNat_Int]
      refine finTupD (vs' := zeroVs) ?_ (fins3 (zero_dullT _ _ (.refl _) (.refl _)) _)
      show resOf _ _ [.cell 2 49, .tmp 3] = _
      simp only [go_sem, seval, zeroVs]
    simp only [go_sem, seval, ex_round, Int.cast_ofNat_Int, wi64]
    refine ex_call (by exact t3) ?_
    cases b3
    case' false =>
      simp only [go_sem, seval, Int.cast_ofNat_Int]
      refine finTupD (vs' := zeroVs) ?_ (fins3 (zero_dullT _ _ (.refl _) (.refl _)) _)
      show resOf _ _ [.cell 2 49, .tmp 3] = _
      simp only [go_sem, seval, zeroVs]
    simp only [go_sem, seval, ex_round, Int.cast_ofNat_Int, wi64]
    refine ex_call (by exact t4) ?_
    cases b4
    case' false =>
      simp only [go_sem, seval, Int.cast_ofNat_Int]
      refine finTupD (vs' := zeroVs) ?_ (fins3 (zero_dullT _ _ (.refl _) (.refl _)) _)
      show resOf _ _ [.cell 2 49, .tmp 3] = _
      simp only [go_sem, seval, zeroVs]
    simp only [go_sem, seval, ex_round, Int.cast_ofNat_Int, wi64]
    refine ex_call (by exact t5) ?_
    cases b5
    case' false =>
      simp only [go_sem, seval, Int.cast_ofNat_Int]
      refine finTupD (vs' := zeroVs) ?_ (fins3 (zero_dullT _ _ (.refl _) (.refl _)) _)
      show resOf _ _ [.cell 2 49, .tmp 3] = _
      simp only [go_sem, seval, zeroVs]
    simp only [go_sem, seval, ex_round, Int.cast_ofNat_Int, wi64]
    refine ex_call (by exact t6) ?_
    cases b6
    case' false =>
      simp only [go_sem, seval, Int.cast_ofNat_Int]
      refine finTupD (vs' := zeroVs) ?_ (fins3 (zero_dullT _ _ (.refl _) (.refl _)) _)
      show resOf _ _ [.cell 2 49, .tmp 3] = _
      simp only [go_sem, seval, zeroVs]
    simp only [go_sem, seval, ex_round, Int.cast_ofNat_Int, wi64]
    refine ex_call (by exact c_smallE n0 l0) ?_
    simp only [go_sem, seval, Int.cast_ofNat_Int]
    refine ex_call (by exact c_smallE n1 l1) ?_
    simp only [go_sem, seval, Int.cast_ofNat_Int]
    refine ex_call (by exact c_smallE n6 l6) ?_
    cases s0 : smallU n0
    case' false =>
      simp only [go_sem, seval, Int.cast_ofNat_Int]
      refine finTupD (vs' := zeroVs) ?_ (fins3 (zero_dullT _ _ (.refl _) (.refl _)) _)
      show resOf _ _ [.cell 2 49, .tmp 3] = _
      simp only [go_sem, seval, zeroVs]
    cases s1 : smallU n1
    case' false =>
      simp only [go_sem, seval, Int.cast_ofNat_Int]
      refine finTupD (vs' := zeroVs) ?_ (fins3 (zero_dullT _ _ (.refl _) (.refl _)) _)
      show resOf _ _ [.cell 2 49, .tmp 3] = _
      simp only [go_sem, seval, zeroVs]
    cases s6 : smallU n6
    case' false =>
      simp only [go_sem, seval, Int.cast_ofNat_Int]
      refine finTupD (vs' := zeroVs) ?_ (fins3 (zero_dullT _ _ (.refl _) (.refl _)) _)
      show resOf _ _ [.cell 2 49, .tmp 3] = _
      simp only [go_sem, seval, zeroVs]
    have w0 : IntKind.i64.wrap (lim n0 0) = (n0 : Int) := by
      unfold smallU at s0
      have := of_decide_eq_true s0
      rw [lim_limN, limN_self (by omega), wi64n _ this]
    have w1 : IntKind.i64.wrap (lim n1 0) = (n1 : Int) := by
      unfold smallU at s1
      have := of_decide_eq_true s1
      rw [lim_limN, limN_self (by omega), wi64n _ this]
    have w6 : IntKind.i64.wrap (lim n6 0) = (n6 : Int) := by
      unfold smallU at s6
      have := of_decide_eq_true s6
      rw [lim_limN, limN_self (by omega), wi64n _ this]
    have e7 := c_Each x7
    have e8 := c_Each x8
    rw [ItemD.av_eq] at e7 e8
    unfold ItemD.cells at e7 e8
    simp only [go_sem, seval, Int.cast_ofNat_Int, w0, w1, w6]
    refine ex_call (by exact e7) ?_
    simp only [go_sem, seval]
    have n7 : (eachI x7).length ≤ 16777216 := by
      have := ok7.num
      unfold eachI; split
      · exact this
      · simp
    have n8 : (eachI x8).length ≤ 16777216 := by
      have := ok8.num
      unfold eachI; split
      · exact this
      · simp
    refine ex_range [2] 86 (cloP 58 x7.cells) (eachOf x7) (fun i => [(2, [.int .i64 (n0 : Int), .int .i64 (n1 : Int), .int .u64 (lim n2 0), .int .u64 (lim n2 1), .int .u64 (lim n2 2), .int .u64 (lim n2 3), .int .u64 (lim n3 0), .int .u64 (lim n3 1), .int .u64 (lim n3 2), .int .u64 (lim n3 3), .int .u64 (lim n4 0), .int .u64 (lim n4 1), .int .u64 (lim n4 2), .int .u64 (lim n4 3), .int .u64 (lim n5 0), .int .u64 (lim n5 1), .int .u64 (lim n5 2), .int .u64 (lim n5 3), .int .i64 (n6 : Int), repI 1 i (((eachI x7).take i).map fun x => AV.int .u64 (takeOf x.text).1), .ext nilP])]) ⟨rfl, rfl, rfl, by decide, by decide, rfl, rfl, iter_each x7 ok7, rfl, plainVs_one (by
      repeat' (first | exact all_nil | refine all_cons ?_ ?_)
      all_goals first | exact Plain.int _ _ | exact Plain.ext _ | exact plainV_of (repI_plain _ _ _ fun c hc => by obtain ⟨x, _, rfl⟩ := List.mem_map.1 hc; exact .int _ _)), fun _ => rfl⟩ (fun i x hx => ?_) ?_
    · rw [each_eq, List.getElem?_map, Option.map_eq_some_iff] at hx
      obtain ⟨y, ey, rfl⟩ := hx
      have hil : i < (eachI x7).length := (List.getElem?_eq_some_iff.1 ey).1
      have s1 : (((eachI x7).take i).map fun x => AV.int .u64 (takeOf x.text).1) ++ [AV.int .u64 (takeOf y.text).1] = ((eachI x7).take (i + 1)).map fun x => AV.int .u64 (takeOf x.text).1 := take_snoc (fun x : ItemD => AV.int .u64 (takeOf x.text).1) ey
      rw [y.av_eq]
      refine ⟨rfl, ?_⟩
      cases i with
      | zero =>
        simp only [go_sem, seval, cellsI_len, ItemD.cells, repI]
        refine ex_call (by exact c_mark_Take y.text) ?_
        simp only [go_sem, seval, repI]
        repeat with_reducible refine And.intro (by first | omega | (simp only [List.length_cons, List.length_append, List.length_nil, List.length_map, List.length_take, List.length_drop, List.length_set]; omega)) ?_
        rw [← s1]
        try rfl
      | succ i =>
        simp only [go_sem, seval, cellsI_len, ItemD.cells, repI]
        refine ex_call (by exact c_mark_Take y.text) ?_
        simp only [go_sem, seval, repI]
        repeat with_reducible refine And.intro (by first | omega | (simp only [List.length_cons, List.length_append, List.length_nil, List.length_map, List.length_take, List.length_drop, List.length_set]; omega)) ?_
        rw [← s1]
        try rfl
    · rw [each_eq, List.length_map, List.take_length]
      simp only [go_sem, seval, Int.cast_ofNat_Int]
      refine ex_call (by exact e8) ?_
      simp only [go_sem, seval]
      obtain ⟨L7, hL7⟩ : ∃ L7, L7 = (eachI x7).map fun x => AV.int .u64 (takeOf x.text).1 := ⟨_, rfl⟩
      rw [← hL7]
      obtain ⟨R7, hR7⟩ : ∃ R7, R7 = repI 1 (eachI x7).length L7 := ⟨_, rfl⟩
      have hp7 : Plain R7 := by
        rw [hR7, hL7]
        exact repI_plain _ _ _ fun c hc => by obtain ⟨x, _, rfl⟩ := List.mem_map.1 hc; exact .int _ _
      rw [← hR7]
      refine ex_range [2] 103 (cloP 58 x8.cells) (eachOf x8) (fun i => [(2, [.int .i64 (n0 : Int), .int .i64 (n1 : Int), .int .u64 (lim n2 0), .int .u64 (lim n2 1), .int .u64 (lim n2 2), .int .u64 (lim n2 3), .int .u64 (lim n3 0), .int .u64 (lim n3 1), .int .u64 (lim n3 2), .int .u64 (lim n3 3), .int .u64 (lim n4 0), .int .u64 (lim n4 1), .int .u64 (lim n4 2), .int .u64 (lim n4 3), .int .u64 (lim n5 0), .int .u64 (lim n5 1), .int .u64 (lim n5 2), .int .u64 (lim n5 3), .int .i64 (n6 : Int), R7, repI 1 i (((eachI x8).take i).map fun x => AV.str x.text)])]) ⟨rfl, rfl, rfl, by decide, by decide, rfl, rfl, iter_each x8 ok8, rfl, plainVs_one (by
        repeat' (first | exact all_nil | refine all_cons ?_ ?_)
        all_goals first | exact Plain.int _ _ | exact plainV_of hp7 | exact plainV_of (repI_plain _ _ _ fun c hc => by obtain ⟨x, _, rfl⟩ := List.mem_map.1 hc; exact .str _)), fun _ => rfl⟩ (fun i x hx => ?_) ?_
      · rw [each_eq, List.getElem?_map, Option.map_eq_some_iff] at hx
        obtain ⟨y, ey, rfl⟩ := hx
        have hil : i < (eachI x8).length := (List.getElem?_eq_some_iff.1 ey).1
        have s1 : (((eachI x8).take i).map fun x => AV.str x.text) ++ [AV.str y.text] = ((eachI x8).take (i + 1)).map fun x => AV.str x.text := take_snoc (fun x : ItemD => AV.str x.text) ey
        rw [y.av_eq]
        refine ⟨rfl, ?_⟩
        cases i with
        | zero =>
          simp only [go_sem, seval, cellsI_len, ItemD.cells, repI]
          repeat with_reducible refine And.intro (by first | omega | (simp only [List.length_cons, List.length_append, List.length_nil, List.length_map, List.length_take, List.length_drop, List.length_set]; omega)) ?_
          rw [← s1]
          try rfl
        | succ i =>
          simp only [go_sem, seval, cellsI_len, ItemD.cells, repI]
          repeat with_reducible refine And.intro (by first | omega | (simp only [List.length_cons, List.length_append, List.length_nil, List.length_map, List.length_take, List.length_drop, List.length_set]; omega)) ?_
          rw [← s1]
          try rfl
      · rw [each_eq, List.length_map, List.take_length]
        obtain ⟨L8, hL8⟩ : ∃ L8, L8 = (eachI x8).map fun x => AV.str x.text := ⟨_, rfl⟩
        rw [← hL8]
        have hav : (fieldsTx x0 x1 x2 x3 x4 x5 x6 x7 x8).dull = .agg [.int .i64 (n0 : Int), .int .i64 (n1 : Int), .int .u64 (lim n2 0), .int .u64 (lim n2 1), .int .u64 (lim n2 2), .int .u64 (lim n2 3), .int .u64 (lim n3 0), .int .u64 (lim n3 1), .int .u64 (lim n3 2), .int .u64 (lim n3 3), .int .u64 (lim n4 0), .int .u64 (lim n4 1), .int .u64 (lim n4 2), .int .u64 (lim n4 3), .int .u64 (lim n5 0), .int .u64 (lim n5 1), .int .u64 (lim n5 2), .int .u64 (lim n5 3), .int .i64 (n6 : Int), .sl true 1 L7, .sl true 1 L8] := by
          rw [hL7, hL8]
          unfold fieldsTx TxD.dull
          simp only [q0, q1, q2, q3, q4, q5, q6, List.map_map]
          rfl
        have c7 : R7 = .ext nilP ∧ L7 = [] ∨ R7 = .own false 1 L7 := by
          rcases Nat.eq_zero_or_pos (eachI x7).length with h | h
          · refine .inl ⟨by rw [hR7, h]; rfl, ?_⟩
            rw [hL7, List.eq_nil_of_length_eq_zero h]; rfl
          · exact .inr (by rw [hR7]; exact repI_own h)
        have c8 : repI 1 (eachI x8).length L8 = .ext nilP ∧ L8 = [] ∨ repI 1 (eachI x8).length L8 = .own false 1 L8 := by
          rcases Nat.eq_zero_or_pos (eachI x8).length with h | h
          · refine .inl ⟨by rw [h]; rfl, ?_⟩
            rw [hL8, List.eq_nil_of_length_eq_zero h]; rfl
          · exact .inr (repI_own h)
        unfold resTxT
        simp only
        rw [hav]
        clear hL7 hL8 hav hR7
        rcases c7 with ⟨r7, rfl⟩ | r7
        · rw [r7]
          rcases c8 with ⟨r8, rfl⟩ | r8
          · rw [r8]
            simp only [go_sem, seval]
            refine finTupD (vs' := [.agg [.int .i64 (n0 : Int), .int .i64 (n1 : Int), .int .u64 (lim n2 0), .int .u64 (lim n2 1), .int .u64 (lim n2 2), .int .u64 (lim n2 3), .int .u64 (lim n3 0), .int .u64 (lim n3 1), .int .u64 (lim n3 2), .int .u64 (lim n3 3), .int .u64 (lim n4 0), .int .u64 (lim n4 1), .int .u64 (lim n4 2), .int .u64 (lim n4 3), .int .u64 (lim n5 0), .int .u64 (lim n5 1), .int .u64 (lim n5 2), .int .u64 (lim n5 3), .int .i64 (n6 : Int), .ext nilP, .ext nilP], .bool true]) ?_ (fins3 (dulls_agg ?_) _)
            · show resOf _ _ [.cell 2 49, .tmp 3] = _
              simp only [go_sem, seval]
            · repeat' (first | exact Dulls.nil | exact Dull.refl _ | exact dsl _ _ _ | exact Dull.nil _ _ | refine Dulls.cons ?_ ?_)
          · rw [r8]
            simp only [go_sem, seval]
            refine finTupD (vs' := [.agg [.int .i64 (n0 : Int), .int .i64 (n1 : Int), .int .u64 (lim n2 0), .int .u64 (lim n2 1), .int .u64 (lim n2 2), .int .u64 (lim n2 3), .int .u64 (lim n3 0), .int .u64 (lim n3 1), .int .u64 (lim n3 2), .int .u64 (lim n3 3), .int .u64 (lim n4 0), .int .u64 (lim n4 1), .int .u64 (lim n4 2), .int .u64 (lim n4 3), .int .u64 (lim n5 0), .int .u64 (lim n5 1), .int .u64 (lim n5 2), .int .u64 (lim n5 3), .int .i64 (n6 : Int), .ext nilP, .sl true 1 L8], .bool true]) ?_ (fins3 (dulls_agg ?_) _)
            · show resOf _ _ [.cell 2 49, .tmp 3] = _
              simp only [go_sem, seval]
            · repeat' (first | exact Dulls.nil | exact Dull.refl _ | exact dsl _ _ _ | exact Dull.nil _ _ | refine Dulls.cons ?_ ?_)
        · rw [r7]
          rcases c8 with ⟨r8, rfl⟩ | r8
          · rw [r8]
            simp only [go_sem, seval]
            refine finTupD (vs' := [.agg [.int .i64 (n0 : Int), .int .i64 (n1 : Int), .int .u64 (lim n2 0), .int .u64 (lim n2 1), .int .u64 (lim n2 2), .int .u64 (lim n2 3), .int .u64 (lim n3 0), .int .u64 (lim n3 1), .int .u64 (lim n3 2), .int .u64 (lim n3 3), .int .u64 (lim n4 0), .int .u64 (lim n4 1), .int .u64 (lim n4 2), .int .u64 (lim n4 3), .int .u64 (lim n5 0), .int .u64 (lim n5 1), .int .u64 (lim n5 2), .int .u64 (lim n5 3), .int .i64 (n6 : Int), .sl true 1 L7, .ext nilP], .bool true]) ?_ (fins3 (dulls_agg ?_) _)
            · show resOf _ _ [.cell 2 49, .tmp 3] = _
              simp only [go_sem, seval]
            · repeat' (first | exact Dulls.nil | exact Dull.refl _ | exact dsl _ _ _ | exact Dull.nil _ _ | refine Dulls.cons ?_ ?_)
          · rw [r8]
            simp only [go_sem, seval]
            refine finTupD (vs' := [.agg [.int .i64 (n0 : Int), .int .i64 (n1 : Int), .int .u64 (lim n2 0), .int .u64 (lim n2 1), .int .u64 (lim n2 2), .int .u64 (lim n2 3), .int .u64 (lim n3 0), .int .u64 (lim n3 1), .int .u64 (lim n3 2), .int .u64 (lim n3 3), .int .u64 (lim n4 0), .int .u64 (lim n4 1), .int .u64 (lim n4 2), .int .u64 (lim n4 3), .int .u64 (lim n5 0), .int .u64 (lim n5 1), .int .u64 (lim n5 2), .int .u64 (lim n5 3), .int .i64 (n6 : Int), .sl true 1 L7, .sl true 1 L8], .bool true]) ?_ (fins3 (dulls_agg ?_) _)
            · show resOf _ _ [.cell 2 49, .tmp 3] = _
              simp only [go_sem, seval]
            · repeat' (first | exact Dulls.nil | exact Dull.refl _ | exact dsl _ _ _ | exact Dull.nil _ _ | refine Dulls.cons ?_ ?_)
  · rw [readTx_len h9]
    have e : ((l.length : Int) != 9) = true := by simp; omega
    refine contract_of (C := cf 112 [0, 2, 3, 4, 5, 6, 7, 8, 9, 10, 11, 12, 13, 14, 15, 17, 20, 22, 23, 35, 68, 85, 86, 102, 103] (fun _ => [])) (cf_ok _ _ _) (fn := Try.f27) Try.func27 (by kernel_rfl) rfl (by kernel_rfl) (by simp [cf]) (plain1 (sl3_plain _)) (by decide) (cellsOk (by kernel_rfl)) ?_
    simp only [go_sem, seval, List.length_map, e]
    refine finTupD (vs' := [.agg [.int .i64 (0 : Int), .int .i64 (0 : Int), .int .u64 (0 : Int), .int .u64 (0 : Int), .int .u64 (0 : Int), .int .u64 (0 : Int), .int .u64 (0 : Int), .int .u64 (0 : Int), .int .u64 (0 : Int), .int .u64 (0 : Int), .int .u64 (0 : Int), .int .u64 (0 : Int), .int .u64 (0 : Int), .int .u64 (0 : Int), .int .u64 (0 : Int), .int .u64 (0 : Int), .int .u64 (0 : Int), .int .u64 (0 : Int), .int .i64 (0 : Int), .sl true 1 [], .sl true 1 []], .bool false]) ?_ (fins3 (zero_dullT _ _ (.refl _) (.refl _)) _)
    show resOf _ _ [.cell 2 49, .tmp 3] = _
    simp only [go_sem, seval]
end Go.Proofs.Ytdenldjlijoeoaa.VA
end
section
/- Transactions out of bytes: the page's way, plain laws. -/
namespace Go.Proofs.Ytdenldjlijoeoaa.VA
set_option maxRecDepth 10000
set_option linter.unusedSimpArgs false
set_option linter.unusedVariables false
set_option maxHeartbeats 2000000

theorem text_take {s : List UInt8} (h : s.length = 8) : textOf (takeOf s).1 = s := by
  unfold takeOf
  rw [if_pos h]
  obtain ⟨a, b, c, d, e, f, g, i, rfl⟩ := eight h
  have ha := a.toNat_lt
  have hb := b.toNat_lt
  have hc := c.toNat_lt
  have hd := d.toNat_lt
  have he := e.toNat_lt
  have hf := f.toNat_lt
  have hg := g.toNat_lt
  have hi := i.toNat_lt
  simp only [List.foldl_cons, List.foldl_nil]
  rw [show (0 : Int) = ((0 : Nat) : Int) from rfl, takeStep_nat _ _ (by omega), takeStep_nat _ _ (by omega), takeStep_nat _ _ (by omega), takeStep_nat _ _ (by omega), takeStep_nat _ _ (by omega), takeStep_nat _ _ (by omega), takeStep_nat _ _ (by omega), takeStep_nat _ _ (by omega)]
  obtain ⟨n, hn⟩ : ∃ n, n = (((((((0 * 256 + a.toNat) * 256 + b.toNat) * 256 + c.toNat) * 256 + d.toNat) * 256 + e.toNat) * 256 + f.toNat) * 256 + g.toNat) * 256 + i.toNat := ⟨_, rfl⟩
  rw [← hn]
  unfold textOf
  have p56 : (byteAt (n : Int) 56).toNat = n / 72057594037927936 % 256 := byteAt_nat n 56 72057594037927936 (by omega) (by decide)
  have p48 : (byteAt (n : Int) 48).toNat = n / 281474976710656 % 256 := byteAt_nat n 48 281474976710656 (by omega) (by decide)
  have p40 : (byteAt (n : Int) 40).toNat = n / 1099511627776 % 256 := byteAt_nat n 40 1099511627776 (by omega) (by decide)
  have p32 : (byteAt (n : Int) 32).toNat = n / 4294967296 % 256 := byteAt_nat n 32 4294967296 (by omega) (by decide)
  have p24 : (byteAt (n : Int) 24).toNat = n / 16777216 % 256 := byteAt_nat n 24 16777216 (by omega) (by decide)
  have p16 : (byteAt (n : Int) 16).toNat = n / 65536 % 256 := byteAt_nat n 16 65536 (by omega) (by decide)
  have p8 : (byteAt (n : Int) 8).toNat = n / 256 % 256 := byteAt_nat n 8 256 (by omega) (by decide)
  have p0 : (byteAt (n : Int) 0).toNat = n / 1 % 256 := byteAt_nat n 0 1 (by omega) (by decide)
  generalize byteAt (n : Int) 56 = y56 at *
  generalize byteAt (n : Int) 48 = y48 at *
  generalize byteAt (n : Int) 40 = y40 at *
  generalize byteAt (n : Int) 32 = y32 at *
  generalize byteAt (n : Int) 24 = y24 at *
  generalize byteAt (n : Int) 16 = y16 at *
  generalize byteAt (n : Int) 8 = y8 at *
  generalize byteAt (n : Int) 0 = y0 at *
  have key : ∀ (y x : UInt8), y.toNat = x.toNat → y = x := fun y x h => UInt8.toNat_inj.1 h
  rw [key y56 a (by rw [p56]; omega)]
  rw [key y48 b (by rw [p48]; omega)]
  rw [key y40 c (by rw [p40]; omega)]
  rw [key y32 d (by rw [p32]; omega)]
  rw [key y24 e (by rw [p24]; omega)]
  rw [key y16 f (by rw [p16]; omega)]
  rw [key y8 g (by rw [p8]; omega)]
  rw [key y0 i (by rw [p0]; omega)]
theorem leaf_eq {d : Nat} {x : ItemD} (h : okI d x = true) (hl : x.list = false) : x = leaf x.text := by
  rw [okI_text d hl, Bool.and_eq_true, List.isEmpty_iff] at h
  cases x with
  | mk l t xs =>
    cases hl
    have : xs = [] := h.1
    subst this
    rfl
theorem list_eq {d : Nat} {x : ItemD} (h : okI d x = true) (hl : x.list = true) : x = listI x.items ∧ x.text = [] := by
  rw [okI_list d hl] at h
  simp only [Bool.and_eq_true, List.isEmpty_iff] at h
  cases x with
  | mk l t xs =>
    cases hl
    have : t = [] := h.1.1.1
    subst this
    exact ⟨rfl, rfl⟩
theorem list_sub {d : Nat} {x : ItemD} (h : okI d x = true) (hl : x.list = true) : ∀ y ∈ x.items, okI (d + 1) y = true := by
  rw [okI_list d hl] at h
  simp only [Bool.and_eq_true] at h
  exact okIs_mem h.1.2
theorem takeU_back {s : List UInt8} (h : (takeU s).2 = true) : bytesOf (takeU s).1 = s := by
  unfold takeU at h ⊢
  split at h
  · cases h
  · rename_i hc
    rw [if_neg hc]
    exact (bytesOf_numOf (fun e => hc (.inr e))).2
def wideR (it : ItemD) : Bool := !it.list && (takeU it.text).2
def headR (x0 x1 x2 x3 x4 x5 x6 : ItemD) : Bool := smallR x0 8 && (smallR x1 1099511627776 && (wideR x2 && (wideR x3 && (wideR x4 && (wideR x5 && smallR x6 1073741824)))))
def refTx (it : ItemD) : Option TxD :=
  if it.list = true then match it.items with
    | [x0, x1, x2, x3, x4, x5, x6, x7, x8] =>
      if (x7.list && x8.list) = true then
        (if headR x0 x1 x2 x3 x4 x5 x6 = true then
          (if x7.items.all (fun x => (takeOf x.text).2) = true then
            (if x8.items.all (fun x => !x.list) = true then
              (if validTx (fieldsTx x0 x1 x2 x3 x4 x5 x6 x7 x8) = true then some (fieldsTx x0 x1 x2 x3 x4 x5 x6 x7 x8) else none)
            else none)
          else none)
        else none)
      else none
    | _ => none
  else none
theorem small_wide {x : ItemD} {m : Nat} (h : smallR x m = true) : wideR x = true ∧ (takeU x.text).1 ≤ m := by
  unfold smallR at h
  rw [Bool.and_eq_true, decide_eq_true_eq] at h
  exact h
theorem wide_num {d : Nat} {x : ItemD} (ho : okI d x = true) (h : wideR x = true) : x = numI (takeU x.text).1 ∧ (takeU x.text).2 = true := by
  unfold wideR at h
  simp only [Bool.and_eq_true, Bool.not_eq_true'] at h
  refine ⟨?_, h.2⟩
  show x = leaf (bytesOf (takeU x.text).1)
  rw [takeU_back h.2]
  exact leaf_eq ho h.1
theorem ref_tx {t : TxD} (h : t.ok) (hv : validTx t = true) : refTx (txItem t) = some t := by
  have V := valid_of hv
  have ht : ∀ n : Nat, n < U → wideR (numI n) = true ∧ (takeU (numI n).text).1 = n := fun n hn => by
    have e : takeU (numI n).text = (n, true) := takeU_bytes hn
    unfold wideR
    rw [e]
    exact ⟨rfl, rfl⟩
  have hs : ∀ n m : Nat, n < U → n ≤ m → smallR (numI n) m = true := fun n m hn hm => by
    have := ht n hn
    unfold smallR
    rw [Bool.and_eq_true, decide_eq_true_eq]
    exact ⟨this.1, by rw [this.2]; exact hm⟩
  have f0 := V.frm
  have f1 := V.nonce
  have f6 := V.gas
  have hf := fields_tx h V
  have h1 : headR (numI t.frm.toNat) (numI t.nonce.toNat) (numI t.tip) (numI t.cap) (numI t.bcap) (numI t.value) (numI t.gas.toNat) = true := by
    unfold headR
    rw [hs t.frm.toNat 8 (lt_U40 (by omega)) (by omega), hs t.nonce.toNat 1099511627776 (lt_U40 (by omega)) (by omega), (ht t.tip h.tip).1, (ht t.cap h.cap).1, (ht t.bcap h.bcap).1, (ht t.value h.value).1, hs t.gas.toNat 1073741824 (lt_U40 (by omega)) (by omega)]
    rfl
  have h7 : (hashI t).items.all (fun x => (takeOf x.text).2) = true := by
    rw [List.all_eq_true]
    intro x hx
    obtain ⟨m, hm, rfl⟩ := List.mem_map.1 (show x ∈ t.hashes.map fun h => leaf (textOf h) from hx)
    rfl
  have h8 : (blobI t).items.all (fun x => !x.list) = true := by
    rw [List.all_eq_true]
    intro x hx
    obtain ⟨m, hm, rfl⟩ := List.mem_map.1 (show x ∈ t.blobs.map leaf from hx)
    rfl
  have h78 : ((hashI t).list && (blobI t).list) = true := rfl
  have h0 : (txItem t).list = true := rfl
  unfold refTx
  rw [if_pos h0]
  show (if ((hashI t).list && (blobI t).list) = true then (if headR _ _ _ _ _ _ _ = true then _ else _) else _) = _
  rw [if_pos h78, if_pos h1, if_pos h7, if_pos h8, hf, if_pos hv]
theorem ref_some {s : List UInt8} {it : ItemD} {t : TxD} (hp : parseAll s = .ok it) (h : refTx it = some t) : takeTx s = some t := by
  obtain ⟨_, hok, hraw, _⟩ := parseAll_ok hp
  unfold refTx at h
  split at h
  · rename_i hl
    have hsub := list_sub hok hl
    obtain ⟨hit, _⟩ := list_eq hok hl
    split at h
    · rename_i x0 x1 x2 x3 x4 x5 x6 x7 x8 hi
      rw [hi] at hsub hit
      split at h
      · rename_i h78
        rw [Bool.and_eq_true] at h78
        split at h
        · rename_i hh
          split at h
          · rename_i ha7
            split at h
            · rename_i ha8
              split at h
              · rename_i hv
                injection h with h
                unfold headR at hh
                simp only [Bool.and_eq_true] at hh
                obtain ⟨g0, g1, g2, g3, g4, g5, g6⟩ := hh
                obtain ⟨g0, k0⟩ := small_wide g0
                obtain ⟨g1, k1⟩ := small_wide g1
                obtain ⟨g6, k6⟩ := small_wide g6
                obtain ⟨e0, b0⟩ := wide_num (hsub x0 (by simp)) g0
                obtain ⟨e1, b1⟩ := wide_num (hsub x1 (by simp)) g1
                obtain ⟨e2, b2⟩ := wide_num (hsub x2 (by simp)) g2
                obtain ⟨e3, b3⟩ := wide_num (hsub x3 (by simp)) g3
                obtain ⟨e4, b4⟩ := wide_num (hsub x4 (by simp)) g4
                obtain ⟨e5, b5⟩ := wide_num (hsub x5 (by simp)) g5
                obtain ⟨e6, b6⟩ := wide_num (hsub x6 (by simp)) g6
                have o7 := hsub x7 (by simp)
                have o8 := hsub x8 (by simp)
                obtain ⟨e7, _⟩ := list_eq o7 h78.1
                obtain ⟨e8, _⟩ := list_eq o8 h78.2
                have s7 := list_sub o7 h78.1
                have s8 := list_sub o8 h78.2
                have m7 : (eachI x7).map (fun x => leaf (textOf (takeOf x.text).1)) = x7.items := by
                  unfold eachI
                  rw [if_pos h78.1]
                  refine (List.map_congr_left (g := id) fun x hx => ?_).trans (List.map_id _)
                  rw [List.all_eq_true] at ha7
                  have hb := ha7 x hx
                  have hlen : x.text.length = 8 := by
                    unfold takeOf at hb
                    split at hb
                    · assumption
                    · cases hb
                  show leaf (textOf (takeOf x.text).1) = x
                  rw [text_take hlen]
                  cases hxl : x.list with
                  | false => exact (leaf_eq (s7 x hx) hxl).symm
                  | true =>
                    have := (list_eq (s7 x hx) hxl).2
                    rw [this] at hlen
                    cases hlen
                have m8 : (eachI x8).map (fun x => leaf x.text) = x8.items := by
                  unfold eachI
                  rw [if_pos h78.2]
                  refine (List.map_congr_left (g := id) fun x hx => ?_).trans (List.map_id _)
                  rw [List.all_eq_true] at ha8
                  have hb := ha8 x hx
                  simp only [Bool.not_eq_true'] at hb
                  exact (leaf_eq (s8 x hx) hb).symm
                have htx : txItem (fieldsTx x0 x1 x2 x3 x4 x5 x6 x7 x8) = it := by
                  conv => rhs; rw [hit]
                  unfold txItem
                  have hh7 : hashI (fieldsTx x0 x1 x2 x3 x4 x5 x6 x7 x8) = x7 := by
                    show listI (((eachI x7).map fun x => (takeOf x.text).1).map fun h => leaf (textOf h)) = x7
                    rw [List.map_map]
                    show listI ((eachI x7).map fun x => leaf (textOf (takeOf x.text).1)) = x7
                    rw [m7]; exact e7.symm
                  have hh8 : blobI (fieldsTx x0 x1 x2 x3 x4 x5 x6 x7 x8) = x8 := by
                    show listI (((eachI x8).map ItemD.text).map leaf) = x8
                    rw [List.map_map]
                    show listI ((eachI x8).map fun x => leaf x.text) = x8
                    rw [m8]; exact e8.symm
                  rw [hh7, hh8]
                  have tn : ∀ n : Nat, ((n : Int)).toNat = n := Int.toNat_natCast
                  show listI [numI ((takeU x0.text).1 : Int).toNat, numI ((takeU x1.text).1 : Int).toNat, numI (takeU x2.text).1, numI (takeU x3.text).1, numI (takeU x4.text).1, numI (takeU x5.text).1, numI ((takeU x6.text).1 : Int).toNat, x7, x8] = _
                  rw [tn, tn, tn, ← e0, ← e1, ← e2, ← e3, ← e4, ← e5, ← e6]
                have hr : readTx it.items = some (fieldsTx x0 x1 x2 x3 x4 x5 x6 x7 x8) := by
                  rw [hi]
                  unfold readTx nums smallU
                  simp only [List.all_cons, List.all_nil, b0, b1, b2, b3, b4, b5, b6, Bool.and_self]
                  rw [if_pos trivial, if_pos]
                  simp only [Bool.and_eq_true, decide_eq_true_eq]
                  omega
                unfold takeTx
                rw [hp]
                simp only
                rw [hr]
                simp only
                rw [if_pos ⟨hv, by unfold txRaw; rw [htx]; exact hraw⟩, h]
              · cases h
            · cases h
          · cases h
        · cases h
      · cases h
    · cases h
  · cases h
/-- Both ways tell the same. -/
theorem takeTx_ref {s : List UInt8} {it : ItemD} (hs : s.length ≤ 4194304) (hp : parseAll s = .ok it) : takeTx s = refTx it := by
  cases hr : refTx it with
  | some t => exact ref_some hp hr
  | none =>
    cases ht : takeTx s with
    | none => rfl
    | some t =>
      exfalso
      obtain ⟨h1, h2, h3⟩ := takeTx_some hs ht
      have := parseAll_tx h1 (valid_of h2)
      rw [h3, hp] at this
      injection this with this
      rw [this, ref_tx h1 h2] at hr
      cases hr
end Go.Proofs.Ytdenldjlijoeoaa.VA
end
section
/- Transactions out of bytes: Take, and the page's own. -/
namespace Go.Proofs.Ytdenldjlijoeoaa.VA
set_option maxRecDepth 10000
set_option linter.unusedSimpArgs false
set_option linter.unusedVariables false
set_option maxHeartbeats 16000000

def resTk : Option TxD → AV
  | some t => .tup [t.av, .int .i64 (0 : Int)]
  | none => .tup [zeroTx.av, .int .i64 (1 : Int)]
def resTkT : Option TxD → AV
  | some t => .tup [t.dull, .int .i64 (0 : Int)]
  | none => .tup [zeroTx.dull, .int .i64 (1 : Int)]
def zeroVe (r : AV) : List AV := [.agg [.int .i64 (0 : Int), .int .i64 (0 : Int), .int .u64 (0 : Int), .int .u64 (0 : Int), .int .u64 (0 : Int), .int .u64 (0 : Int), .int .u64 (0 : Int), .int .u64 (0 : Int), .int .u64 (0 : Int), .int .u64 (0 : Int), .int .u64 (0 : Int), .int .u64 (0 : Int), .int .u64 (0 : Int), .int .u64 (0 : Int), .int .u64 (0 : Int), .int .u64 (0 : Int), .int .u64 (0 : Int), .int .u64 (0 : Int), .int .i64 (0 : Int), .ext nilP, .ext nilP], r]
theorem c_tx_TakeT (s : List UInt8) (hs : s.length ≤ 4194304) : Contract Try.prog 14 [.str s] (resTkT (takeTx s)) := by
  have h1 := c_item_Parse s (by omega)
  unfold takeTx
  cases hp : parseAll s with
  | error e =>
    have he : ((e : Int) != 0) = true := by
      unfold parseAll at hp
      cases hq : parse 0 s with
      | error e2 => rw [hq] at hp; cases hp; rcases parse_err hq with rfl | rfl <;> rfl
      | ok r =>
        obtain ⟨x, k⟩ := r
        rw [hq] at hp
        simp only at hp
        split at hp
        · cases hp; rfl
        · cases hp
    rw [hp] at h1
    unfold resA at h1
    refine contract_of (C := cf 41 [0, 2, 3, 4, 5, 6, 7, 8, 9, 16, 25, 38] (fun _ => [])) (cf_ok _ _ _) (fn := Try.f14) Try.func14 (by kernel_rfl) rfl (by kernel_rfl) (by simp [cf]) (plain1 (.str _)) (by decide) (cellsOk (by kernel_rfl)) ?_
    simp only [go_sem, seval]
    refine ex_call (by exact h1) ?_
    simp only [go_sem, seval, he]
    refine finTupD (vs' := zeroVe (.int .i64 1)) ?_ (fins3 (zero_dullT _ _ (.nil _ _) (.nil _ _)) _)
    show resOf _ _ [.cell 2 49, .tmp 3] = _
    simp only [go_sem, seval, zeroVe]
  | ok it =>
    obtain ⟨_, _, _, hw⟩ := parseAll_ok hp
    have hwe := wt_eq it
    rw [hp] at h1
    unfold resA at h1
    have h2 := c_tx_readT it.items (by omega)
    simp only
    cases hr : readTx it.items with
    | none =>
      rw [hr] at h2
      unfold resTxT zeroTx TxD.dull at h2
      simp only [lim_zero, List.map_nil] at h2
      refine contract_of (C := cf 41 [0, 2, 3, 4, 5, 6, 7, 8, 9, 16, 25, 38] (fun _ => [])) (cf_ok _ _ _) (fn := Try.f14) Try.func14 (by kernel_rfl) rfl (by kernel_rfl) (by simp [cf]) (plain1 (.str _)) (by decide) (cellsOk (by kernel_rfl)) ?_
      simp only [go_sem, seval]
      refine ex_call (by exact h1) ?_
      simp only [go_sem, seval]
      refine ex_call (by exact h2) ?_
      simp only [go_sem, seval]
      refine finTupD (vs' := zeroVe (.int .i64 1)) ?_ (fins3 (zero_dullT _ _ (.nil _ _) (.nil _ _)) _)
      show resOf _ _ [.cell 2 49, .tmp 3] = _
      simp only [go_sem, seval, zeroVe]
    | some t =>
      have hto := readTx_ok hr (by omega)
      have h3 := c_tx_Bytes t hto
      rw [hr] at h2
      unfold resTxT at h2
      unfold bytesTx at h3
      simp only at h2 ⊢
      cases hv : validTx t with
      | false =>
        rw [if_neg (fun h => by cases h.1)]
        rw [hv, if_neg (by simp), if_neg (by simp)] at h3
        have hdl := t.dull_av
        unfold TxD.dull TxD.av TxD.cells ints strs at hdl
        unfold TxD.dull at h2
        unfold TxD.av TxD.cells ints strs at h3
        refine contract_of (C := cf 41 [0, 2, 3, 4, 5, 6, 7, 8, 9, 16, 25, 38] (fun _ => [])) (cf_ok _ _ _) (fn := Try.f14) Try.func14 (by kernel_rfl) rfl (by kernel_rfl) (by simp [cf]) (plain1 (.str _)) (by decide) (cellsOk (by kernel_rfl)) ?_
        simp only [go_sem, seval]
        refine ex_call (by exact h1) ?_
        simp only [go_sem, seval]
        refine ex_call (by exact h2) ?_
        simp only [go_sem, seval]
        refine ex_call_dull (.cons hdl .nil) (by exact h3) ?_
        simp only [go_sem, seval]
        refine finTupD (vs' := zeroVe (.int .i64 1)) ?_ (fins3 (zero_dullT _ _ (.nil _ _) (.nil _ _)) _)
        show resOf _ _ [.cell 2 49, .tmp 3] = _
        simp only [go_sem, seval, zeroVe]
      | true =>
        rw [hv, if_pos rfl, if_pos rfl] at h3
        rcases Decidable.em (txRaw t = s) with hb | hb
        · rw [if_pos ⟨rfl, hb⟩]
          have hbe : (!(txRaw t == s)) = false := by simp [hb]
          have hdl := t.dull_av
          unfold TxD.dull TxD.av TxD.cells ints strs at hdl
          unfold resTkT
          unfold TxD.dull at h2 ⊢
          unfold TxD.av TxD.cells ints strs at h3
          refine contract_of (C := cf 41 [0, 2, 3, 4, 5, 6, 7, 8, 9, 16, 25, 38] (fun _ => [])) (cf_ok _ _ _) (fn := Try.f14) Try.func14 (by kernel_rfl) rfl (by kernel_rfl) (by simp [cf]) (plain1 (.str _)) (by decide) (cellsOk (by kernel_rfl)) ?_
          simp only [go_sem, seval]
          refine ex_call (by exact h1) ?_
          simp only [go_sem, seval]
          refine ex_call (by exact h2) ?_
          simp only [go_sem, seval]
          refine ex_call_dull (.cons hdl .nil) (by exact h3) ?_
          simp only [go_sem, seval, hbe]
          refine finTup ?_
          show resOf _ _ [.cell 2 49, .tmp 3] = _
          simp only [go_sem, seval]
        · rw [if_neg (fun h => hb h.2)]
          have hbe : (!(txRaw t == s)) = true := by simp [hb]
          have hdl := t.dull_av
          unfold TxD.dull TxD.av TxD.cells ints strs at hdl
          unfold TxD.dull at h2
          unfold TxD.av TxD.cells ints strs at h3
          refine contract_of (C := cf 41 [0, 2, 3, 4, 5, 6, 7, 8, 9, 16, 25, 38] (fun _ => [])) (cf_ok _ _ _) (fn := Try.f14) Try.func14 (by kernel_rfl) rfl (by kernel_rfl) (by simp [cf]) (plain1 (.str _)) (by decide) (cellsOk (by kernel_rfl)) ?_
          simp only [go_sem, seval]
          refine ex_call (by exact h1) ?_
          simp only [go_sem, seval]
          refine ex_call (by exact h2) ?_
          simp only [go_sem, seval]
          refine ex_call_dull (.cons hdl .nil) (by exact h3) ?_
          simp only [go_sem, seval, hbe]
          refine finTupD (vs' := zeroVe (.int .i64 1)) ?_ (fins3 (zero_dullT _ _ (.nil _ _) (.nil _ _)) _)
          show resOf _ _ [.cell 2 49, .tmp 3] = _
          simp only [go_sem, seval, zeroVe]
theorem vreps_dullM {M : Nat → Prop} {I : Imm} {w : World} : ∀ (xs ys : List AV) (vs : List Value) (gs : List Nat), Dulls xs ys → VReps M I w xs vs gs → xs.all AV.isImm = true → VReps M I w ys vs gs
  | [], _, [], gs, hd, h, _ => by cases hd; exact h
  | x :: xs, _, u :: vs, gs, hd, h, hi => by
    cases hd with
    | cons h1 h2 =>
      obtain ⟨g1, g2, rfl, k1, k2⟩ := h
      rw [List.all_cons, Bool.and_eq_true] at hi
      refine ⟨g1, g2, rfl, ?_, vreps_dullM xs _ vs g2 h2 k2 hi.2⟩
      rcases vrep_cases k1 with ⟨_, _, rfl, _, rfl⟩ | ⟨_, _, _, _, _, rfl, _, _, _, _⟩ | ⟨_, ha, rfl⟩
      · cases hi.1
      · cases hi.1
      · exact vrep_imm (ha.dull h1)
  | [], _, _ :: _, gs, hd, h, _ => h.elim
  | _ :: _, _, [], gs, hd, h, _ => h.elim
/-- A contract with fewer marks. -/
theorem Contract.weak {P : Program} {f : FuncId} {args xs ys : List AV} (h : Contract P f args (.tup xs)) (hd : Dulls xs ys) (hi : xs.all AV.isImm = true) : Contract P f args (.tup ys) where
  enters := h.enters
  calls I w vs gs h1 h2 h3 := (h.calls I w vs gs h1 h2 h3).mono fun e w' hq => by
    obtain ⟨v, J, gs', q0, q1, q2, q3, q4, ⟨us, q5, q6⟩, q7⟩ := hq
    exact ⟨v, J, gs', q0, q1, q2, q3, q4, ⟨us, q5, vreps_dullM _ _ _ _ hd q6 hi⟩, q7⟩
theorem c_tx_Take (s : List UInt8) (hs : s.length ≤ 4194304) : Contract Try.prog 14 [.str s] (resTk (takeTx s)) := by
  have h := c_tx_TakeT s hs
  cases ht : takeTx s with
  | none => rw [ht] at h; exact h.weak (.cons zeroTx.dull_av (.cons (.refl _) .nil)) rfl
  | some t => rw [ht] at h; exact h.weak (.cons t.dull_av (.cons (.refl _) .nil)) rfl
theorem refTx_text {it : ItemD} (h : it.list = false) : refTx it = none := by unfold refTx; rw [if_neg (by simp [h])]
theorem refTx_len {it : ItemD} (h : it.items.length ≠ 9) : refTx it = none := by
  unfold refTx
  split
  · split
    · rename_i e; rw [e] at h; exact absurd rfl h
    · rfl
  · rfl
theorem refTx_nine {it : ItemD} (hl : it.list = true) {x0 x1 x2 x3 x4 x5 x6 x7 x8 : ItemD} (h : it.items = [x0, x1, x2, x3, x4, x5, x6, x7, x8]) : refTx it = if (x7.list && x8.list) = true then
        (if headR x0 x1 x2 x3 x4 x5 x6 = true then
          (if x7.items.all (fun x => (takeOf x.text).2) = true then
            (if x8.items.all (fun x => !x.list) = true then
              (if validTx (fieldsTx x0 x1 x2 x3 x4 x5 x6 x7 x8) = true then some (fieldsTx x0 x1 x2 x3 x4 x5 x6 x7 x8) else none)
            else none)
          else none)
        else none)
      else none := by
  unfold refTx
  rw [if_pos hl, h]
theorem c_wideE (it : ItemD) (hs : it.text.length ≤ 4294967296) (c : Bool) (hc : wideR it = c) : Contract Try.prog 30 [.agg [.bool it.list, .str it.text, .sl false 3 (it.items.map ItemD.av)]] (.tup [.agg [.int .u64 (lim (if it.list = true then 0 else (takeU it.text).1) 0), .int .u64 (lim (if it.list = true then 0 else (takeU it.text).1) 1), .int .u64 (lim (if it.list = true then 0 else (takeU it.text).1) 2), .int .u64 (lim (if it.list = true then 0 else (takeU it.text).1) 3)], .bool c]) := by
  rw [← hc]
  exact c_ref7_wide it hs
theorem c_smallRE (it : ItemD) (hs : it.text.length ≤ 4294967296) (most : Nat) (hm : most < 4611686018427387904) (c : Bool) (hc : smallR it most = c) : Contract Try.prog 29 [.agg [.bool it.list, .str it.text, .sl false 3 (it.items.map ItemD.av)], .int .i64 most]
    (.tup [.int .i64 (if c = true then ((takeU it.text).1 : Int) else 0), .bool c]) := by
  rw [← hc]
  exact c_ref7_small it hs most hm
theorem all_take {α : Type} {p : α → Bool} {l : List α} {i : Nat} {x : α} (h : l[i]? = some x) : (l.take (i + 1)).all p = ((l.take i).all p && p x) := by
  rw [List.take_add_one, h, List.all_append]; simp
theorem all_no {α : Type} {p : α → Bool} {l : List α} {i : Nat} {x : α} (h : l[i]? = some x) (hx : p x = false) : l.all p = false := by
  rw [List.all_eq_false]
  exact ⟨x, List.mem_of_getElem? h, by simp [hx]⟩
theorem fields_ok {x0 x1 x2 x3 x4 x5 x6 x7 x8 : ItemD} (h : headR x0 x1 x2 x3 x4 x5 x6 = true) (hw : wts [x0, x1, x2, x3, x4, x5, x6, x7, x8] ≤ 16777216) : (fieldsTx x0 x1 x2 x3 x4 x5 x6 x7 x8).ok := by
  have hr : readTx [x0, x1, x2, x3, x4, x5, x6, x7, x8] = some (fieldsTx x0 x1 x2 x3 x4 x5 x6 x7 x8) := by
    unfold headR at h
    simp only [Bool.and_eq_true] at h
    obtain ⟨g0, g1, g2, g3, g4, g5, g6⟩ := h
    obtain ⟨g0, k0⟩ := small_wide g0
    obtain ⟨g1, k1⟩ := small_wide g1
    obtain ⟨g6, k6⟩ := small_wide g6
    have w2 : ∀ x : ItemD, wideR x = true → (takeU x.text).2 = true := fun x h => by unfold wideR at h; simp only [Bool.and_eq_true] at h; exact h.2
    unfold readTx nums smallU
    simp only [List.all_cons, List.all_nil, w2 _ g0, w2 _ g1, w2 _ g2, w2 _ g3, w2 _ g4, w2 _ g5, w2 _ g6, Bool.and_self]
    rw [if_pos trivial, if_pos]
    simp only [Bool.and_eq_true, decide_eq_true_eq]
    omega
  exact readTx_ok hr hw
theorem ref4_TakeE (s : List UInt8) (hs : s.length ≤ 16777216) (it : ItemD) (k : Nat) (h : parse 0 s = .ok (it, k)) : Contract Try.prog 7 [.str s] (.tup [.agg [.bool it.list, .str it.text, .sl false 3 (it.items.map ItemD.av)], .int .i64 (k : Int), .int .i64 (0 : Int)]) := by
  have := c_ref4_Take s hs
  rw [h] at this
  exact this
theorem c_ref7_Take (s : List UInt8) (hs : s.length ≤ 4194304) : Contract Try.prog 15 [.str s] (resTx (takeTx s)) := by
  cases hp : parse 0 s with
  | error e =>
    have h1 := c_ref4_Take s (by omega)
    rw [hp] at h1
    unfold resP at h1
    have he : ((e : Int) != 0) = true := by rcases parse_err hp with rfl | rfl <;> rfl
    have hn : takeTx s = none := by unfold takeTx parseAll; rw [hp]
    rw [hn]
    refine contract_of (C := cf 199 [0, 2, 3, 4, 5, 6, 7, 8, 9, 10, 11, 12, 13, 14, 15, 57, 125, 131, 139, 155, 169, 179, 196] (fun _ => [])) (cf_ok _ _ _) (fn := Try.f15) Try.func15 (by kernel_rfl) rfl (by kernel_rfl) (by simp [cf]) (plain1 (.str _)) (by decide) (cellsOk (by kernel_rfl)) ?_
    simp only [go_sem, seval]
    refine ex_call (by exact h1) ?_
    simp only [go_sem, seval, Int.cast_ofNat_Int, he]
    refine finTupD (vs' := zeroVe (.bool false)) ?_ (fins3 (zero_dull _ _ (.nil _ _) (.nil _ _)) _)
    show resOf _ _ [.cell 2 49, .tmp 3] = _
    simp only [go_sem, seval, zeroVe]
  | ok r =>
    obtain ⟨it, k⟩ := r
    have h1 := ref4_TakeE s (by omega) it k hp
    have hpo := parse_ok hp
    have hkl := hpo.le
    rcases Decidable.em (k < s.length) with hk | hk
    · have hn : takeTx s = none := by unfold takeTx parseAll; rw [hp]; simp only; rw [if_pos hk]
      rw [hn]
      have ek : ((k : Int) != (s.length : Int)) = true := by simp; omega
      refine contract_of (C := cf 199 [0, 2, 3, 4, 5, 6, 7, 8, 9, 10, 11, 12, 13, 14, 15, 57, 125, 131, 139, 155, 169, 179, 196] (fun _ => [])) (cf_ok _ _ _) (fn := Try.f15) Try.func15 (by kernel_rfl) rfl (by kernel_rfl) (by simp [cf]) (plain1 (.str _)) (by decide) (cellsOk (by kernel_rfl)) ?_
      simp only [go_sem, seval]
      refine ex_call (by exact h1) ?_
      simp only [go_sem, seval, Int.cast_ofNat_Int, ek]
      refine finTupD (vs' := zeroVe (.bool false)) ?_ (fins3 (zero_dull _ _ (.nil _ _) (.nil _ _)) _)
      show resOf _ _ [.cell 2 49, .tmp 3] = _
      simp only [go_sem, seval, zeroVe]
    · have hpa : parseAll s = .ok it := by unfold parseAll; rw [hp]; simp only; rw [if_neg hk]
      have ek : ((k : Int) != (s.length : Int)) = false := by simp; omega
      rw [takeTx_ref hs hpa]
      cases hl : it.list with
      | false =>
        rw [refTx_text hl]
        rw [hl] at h1
        refine contract_of (C := cf 199 [0, 2, 3, 4, 5, 6, 7, 8, 9, 10, 11, 12, 13, 14, 15, 57, 125, 131, 139, 155, 169, 179, 196] (fun _ => [])) (cf_ok _ _ _) (fn := Try.f15) Try.func15 (by kernel_rfl) rfl (by kernel_rfl) (by simp [cf]) (plain1 (.str _)) (by decide) (cellsOk (by kernel_rfl)) ?_
        simp only [go_sem, seval]
        refine ex_call (by exact h1) ?_
        simp only [go_sem, seval, Int.cast_ofNat_Int, ek]
        refine finTupD (vs' := zeroVe (.bool false)) ?_ (fins3 (zero_dull _ _ (.nil _ _) (.nil _ _)) _)
        show resOf _ _ [.cell 2 49, .tmp 3] = _
        simp only [go_sem, seval, zeroVe]
      | true =>
        rw [hl] at h1
        rcases Decidable.em (it.items.length = 9) with h9 | h9
        · obtain ⟨x0, x1, x2, x3, x4, x5, x6, x7, x8, hi⟩ := nine h9
          have hwe := wt_eq it
          have hpw := hpo.wt
          have okx : ∀ x ∈ it.items, x.ok := fun x hx => by
            have := wts_mem hx
            unfold ItemD.ok; omega
          rw [hi] at okx
          have tl : ∀ x ∈ [x0, x1, x2, x3, x4, x5, x6, x7, x8], x.text.length ≤ 4294967296 := fun x hx => by have := (okx x hx).text; omega
          have k7 := (okx x7 (by simp)).num
          have k8 := (okx x8 (by simp)).num
          rw [refTx_nine hl hi]
          rw [hi] at h1
          simp only [List.map_cons, List.map_nil, ItemD.av_eq, ItemD.cells] at h1
          cases l7 : x7.list with
          | false =>
            rw [l7] at h1
            rw [if_neg (by simp)]
            refine contract_of (C := cf 199 [0, 2, 3, 4, 5, 6, 7, 8, 9, 10, 11, 12, 13, 14, 15, 57, 125, 131, 139, 155, 169, 179, 196] (fun _ => [])) (cf_ok _ _ _) (fn := Try.f15) Try.func15 (by kernel_rfl) rfl (by kernel_rfl) (by simp [cf]) (plain1 (.str _)) (by decide) (cellsOk (by kernel_rfl)) ?_
            simp only [go_sem, seval]
            refine ex_call (by exact h1) ?_
            simp only [go_sem, seval, Int.cast_ofNat_Int, ek]
            refine finTupD (vs' := zeroVe (.bool false)) ?_ (fins3 (zero_dull _ _ (.nil _ _) (.nil _ _)) _)
            show resOf _ _ [.cell 2 49, .tmp 3] = _
            simp only [go_sem, seval, zeroVe]
          | true =>
            rw [l7] at h1
            cases l8 : x8.list with
            | false =>
              rw [l8] at h1
              rw [if_neg (by simp)]
              refine contract_of (C := cf 199 [0, 2, 3, 4, 5, 6, 7, 8, 9, 10, 11, 12, 13, 14, 15, 57, 125, 131, 139, 155, 169, 179, 196] (fun _ => [])) (cf_ok _ _ _) (fn := Try.f15) Try.func15 (by kernel_rfl) rfl (by kernel_rfl) (by simp [cf]) (plain1 (.str _)) (by decide) (cellsOk (by kernel_rfl)) ?_
              simp only [go_sem, seval]
              refine ex_call (by exact h1) ?_
              simp only [go_sem, seval, Int.cast_ofNat_Int, ek]
              refine finTupD (vs' := zeroVe (.bool false)) ?_ (fins3 (zero_dull _ _ (.nil _ _) (.nil _ _)) _)
              show resOf _ _ [.cell 2 49, .tmp 3] = _
              simp only [go_sem, seval, zeroVe]
            | true =>
              rw [l8] at h1
              rw [if_pos (by rfl)]
              obtain ⟨c0, q0⟩ : ∃ c, smallR x0 8 = c := ⟨_, rfl⟩
              obtain ⟨c1, q1⟩ : ∃ c, smallR x1 1099511627776 = c := ⟨_, rfl⟩
              obtain ⟨c2, q2⟩ : ∃ c, wideR x2 = c := ⟨_, rfl⟩
              obtain ⟨c3, q3⟩ : ∃ c, wideR x3 = c := ⟨_, rfl⟩
              obtain ⟨c4, q4⟩ : ∃ c, wideR x4 = c := ⟨_, rfl⟩
              obtain ⟨c5, q5⟩ : ∃ c, wideR x5 = c := ⟨_, rfl⟩
              obtain ⟨c6, q6⟩ : ∃ c, smallR x6 1073741824 = c := ⟨_, rfl⟩
              have t0 := c_smallRE x0 (tl x0 (by simp)) 8 (by decide) c0 q0
              have t1 := c_smallRE x1 (tl x1 (by simp)) 1099511627776 (by decide) c1 q1
              have t2 := c_wideE x2 (tl x2 (by simp)) c2 q2
              have t3 := c_wideE x3 (tl x3 (by simp)) c3 q3
              have t4 := c_wideE x4 (tl x4 (by simp)) c4 q4
              have t5 := c_wideE x5 (tl x5 (by simp)) c5 q5
              have t6 := c_smallRE x6 (tl x6 (by simp)) 1073741824 (by decide) c6 q6
              have hh : headR x0 x1 x2 x3 x4 x5 x6 = (c0 && (c1 && (c2 && (c3 && (c4 && (c5 && c6)))))) := by unfold headR; rw [q0, q1, q2, q3, q4, q5, q6]
              rw [hh]
              refine contract_of (C := cf 199 [0, 2, 3, 4, 5, 6, 7, 8, 9, 10, 11, 12, 13, 14, 15, 57, 125, 131, 139, 155, 169, 179, 196] (fun _ => [])) (cf_ok _ _ _) (fn := Try.f15) Try.func15 (by kernel_rfl) rfl (by kernel_rfl) (by simp [cf]) (plain1 (.str _)) (by decide) (cellsOk (by kernel_rfl)) ?_
              simp only [go_sem, seval]
              refine ex_call (by exact h1) ?_
              simp only [go_sem, seval, ek, Int.cast_ofNat_Int]
              refine ex_call (by exact t0) ?_
              simp only [go_sem, seval, Int.cast_ofNat_Int]
              refine ex_call (by exact t1) ?_
              simp only [go_sem, seval, Int.cast_ofNat_Int]
              refine ex_call (by exact t2) ?_
              simp only [go_sem, seval, Int.cast_ofNat_Int]
              refine ex_call (by exact t3) ?_
              simp only [go_sem, seval, Int.cast_ofNat_Int]
              refine ex_call (by exact t4) ?_
              simp only [go_sem, seval, Int.cast_ofNat_Int]
              refine ex_call (by exact t5) ?_
              simp only [go_sem, seval, Int.cast_ofNat_Int]
              refine ex_call (by exact t6) ?_
              simp only [go_sem, seval, Int.cast_ofNat_Int]
              refine ex_loop [2, 4, 8, 9, 10, 11] 8 ?_
              simp only [go_sem, seval, ex_round, Int.cast_ofNat_Int, wi64]
              cases c0
              case' false =>
                simp only [go_sem, seval]
                refine finTupD (vs' := zeroVe (.bool false)) ?_ (fins3 (zero_dull _ _ (.nil _ _) (.nil _ _)) _)
                show resOf _ _ [.cell 2 49, .tmp 3] = _
                simp only [go_sem, seval, zeroVe]
              simp only [go_sem, seval, ex_round, Int.cast_ofNat_Int, wi64]
              cases c1
              case' false =>
                simp only [go_sem, seval]
                refine finTupD (vs' := zeroVe (.bool false)) ?_ (fins3 (zero_dull _ _ (.nil _ _) (.nil _ _)) _)
                show resOf _ _ [.cell 2 49, .tmp 3] = _
                simp only [go_sem, seval, zeroVe]
              simp only [go_sem, seval, ex_round, Int.cast_ofNat_Int, wi64]
              cases c2
              case' false =>
                simp only [go_sem, seval]
                refine finTupD (vs' := zeroVe (.bool false)) ?_ (fins3 (zero_dull _ _ (.nil _ _) (.nil _ _)) _)
                show resOf _ _ [.cell 2 49, .tmp 3] = _
                simp only [go_sem, seval, zeroVe]
              simp only [go_sem, seval, ex_round, Int.cast_ofNat_Int, wi64]
              cases c3
              case' false =>
                simp only [go_sem, seval]
                refine finTupD (vs' := zeroVe (.bool false)) ?_ (fins3 (zero_dull _ _ (.nil _ _) (.nil _ _)) _)
                show resOf _ _ [.cell 2 49, .tmp 3] = _
                simp only [go_sem, seval, zeroVe]
              simp only [go_sem, seval, ex_round, Int.cast_ofNat_Int, wi64]
              cases c4
              case' false =>
                simp only [go_sem, seval]
                refine finTupD (vs' := zeroVe (.bool false)) ?_ (fins3 (zero_dull _ _ (.nil _ _) (.nil _ _)) _)
                show resOf _ _ [.cell 2 49, .tmp 3] = _
                simp only [go_sem, seval, zeroVe]
              simp only [go_sem, seval, ex_round, Int.cast_ofNat_Int, wi64]
              cases c5
              case' false =>
                simp only [go_sem, seval]
                refine finTupD (vs' := zeroVe (.bool false)) ?_ (fins3 (zero_dull _ _ (.nil _ _) (.nil _ _)) _)
                show resOf _ _ [.cell 2 49, .tmp 3] = _
                simp only [go_sem, seval, zeroVe]
              simp only [go_sem, seval, ex_round, Int.cast_ofNat_Int, wi64]
              cases c6
              case' false =>
                simp only [go_sem, seval]
                refine finTupD (vs' := zeroVe (.bool false)) ?_ (fins3 (zero_dull _ _ (.nil _ _) (.nil _ _)) _)
                show resOf _ _ [.cell 2 49, .tmp 3] = _
                simp only [go_sem, seval, zeroVe]
              simp only [go_sem, seval, ex_round, Int.cast_ofNat_Int, wi64]
              have g2 : x2.list = false := by unfold wideR at q2; simp only [Bool.and_eq_true, Bool.not_eq_true'] at q2; exact q2.1
              have g3 : x3.list = false := by unfold wideR at q3; simp only [Bool.and_eq_true, Bool.not_eq_true'] at q3; exact q3.1
              have g4 : x4.list = false := by unfold wideR at q4; simp only [Bool.and_eq_true, Bool.not_eq_true'] at q4; exact q4.1
              have g5 : x5.list = false := by unfold wideR at q5; simp only [Bool.and_eq_true, Bool.not_eq_true'] at q5; exact q5.1
              have hFo : (fieldsTx x0 x1 x2 x3 x4 x5 x6 x7 x8).ok := fields_ok hh (by rw [hi] at hwe; omega)
              rw [if_neg (show ¬ (x2.list = true) by simp [g2]), if_neg (show ¬ (x3.list = true) by simp [g3]), if_neg (show ¬ (x4.list = true) by simp [g4]), if_neg (show ¬ (x5.list = true) by simp [g5])]
              generalize hLS : [AV.agg [.bool x0.list, .str x0.text, .sl false 3 (x0.items.map ItemD.av)], AV.agg [.bool x1.list, .str x1.text, .sl false 3 (x1.items.map ItemD.av)], AV.agg [.bool x2.list, .str x2.text, .sl false 3 (x2.items.map ItemD.av)], AV.agg [.bool x3.list, .str x3.text, .sl false 3 (x3.items.map ItemD.av)], AV.agg [.bool x4.list, .str x4.text, .sl false 3 (x4.items.map ItemD.av)], AV.agg [.bool x5.list, .str x5.text, .sl false 3 (x5.items.map ItemD.av)], AV.agg [.bool x6.list, .str x6.text, .sl false 3 (x6.items.map ItemD.av)], AV.agg [.bool true, .str x7.text, .sl false 3 (x7.items.map ItemD.av)], AV.agg [.bool true, .str x8.text, .sl false 3 (x8.items.map ItemD.av)]] = LS
              have e7 : LS[7]? = some (.agg [.bool true, .str x7.text, .sl false 3 (x7.items.map ItemD.av)]) := by rw [← hLS]; rfl
              have e8 : LS[8]? = some (.agg [.bool true, .str x8.text, .sl false 3 (x8.items.map ItemD.av)]) := by rw [← hLS]; rfl
              have eL : LS.length = 9 := by rw [← hLS]; rfl
              clear hLS
              refine ex_iter [2, 4, 8, 9, 12] (fun i : Nat => ⟨[(2, .var 2 0), (4, .var 4 0), (8, .sl false 3 LS), (9, .var 9 0), (12, .int .i64 i)], [(2, [.int .i64 (0 : Int), .int .i64 (0 : Int), .int .u64 (0 : Int), .int .u64 (0 : Int), .int .u64 (0 : Int), .int .u64 (0 : Int), .int .u64 (0 : Int), .int .u64 (0 : Int), .int .u64 (0 : Int), .int .u64 (0 : Int), .int .u64 (0 : Int), .int .u64 (0 : Int), .int .u64 (0 : Int), .int .u64 (0 : Int), .int .u64 (0 : Int), .int .u64 (0 : Int), .int .u64 (0 : Int), .int .u64 (0 : Int), .int .i64 (0 : Int), .own false 1 [], .own false 1 []]), (4, [.int .i64 (0 : Int), .int .i64 (0 : Int), .int .u64 (0 : Int), .int .u64 (0 : Int), .int .u64 (0 : Int), .int .u64 (0 : Int), .int .u64 (0 : Int), .int .u64 (0 : Int), .int .u64 (0 : Int), .int .u64 (0 : Int), .int .u64 (0 : Int), .int .u64 (0 : Int), .int .u64 (0 : Int), .int .u64 (0 : Int), .int .u64 (0 : Int), .int .u64 (0 : Int), .int .u64 (0 : Int), .int .u64 (0 : Int), .int .i64 (0 : Int), .ext nilP, .ext nilP]), (9, [.int .i64 ((takeU x0.text).1 : Int), .int .i64 ((takeU x1.text).1 : Int), .int .u64 (lim (takeU x2.text).1 0), .int .u64 (lim (takeU x2.text).1 1), .int .u64 (lim (takeU x2.text).1 2), .int .u64 (lim (takeU x2.text).1 3), .int .u64 (lim (takeU x3.text).1 0), .int .u64 (lim (takeU x3.text).1 1), .int .u64 (lim (takeU x3.text).1 2), .int .u64 (lim (takeU x3.text).1 3), .int .u64 (lim (takeU x4.text).1 0), .int .u64 (lim (takeU x4.text).1 1), .int .u64 (lim (takeU x4.text).1 2), .int .u64 (lim (takeU x4.text).1 3), .int .u64 (lim (takeU x5.text).1 0), .int .u64 (lim (takeU x5.text).1 1), .int .u64 (lim (takeU x5.text).1 2), .int .u64 (lim (takeU x5.text).1 3), .int .i64 ((takeU x6.text).1 : Int), .own false 1 ((x7.items.take i).map fun x => AV.int .u64 (takeOf x.text).1), .own false 1 []])]⟩) (fun i => i ≤ x7.items.length ∧ (x7.items.take i).all (fun x => (takeOf x.text).2) = true) (fun i => x7.items.length - i) 0 ?_ ?_ ?_
              · simp only [ASt.keep, consIf, keepL, keepV, AV.isBot, List.contains_cons, List.contains_nil, Nat.reduceBEq, Bool.or_false, Bool.false_or, Bool.or_true, Bool.true_or, beq_self_eq_true, Bool.false_eq_true, ↓reduceIte, if_false, if_true]
                rfl
              · exact ⟨Nat.zero_le _, rfl⟩
              · rintro r i ⟨hin, hall⟩ next
                simp only [go_sem, seval, e7, eL, List.length_map, Int.cast_ofNat_Int]
                refine ex_br (fun hc => ?_) (fun hc => ?_)
                · have hlt : i < x7.items.length := by simpa using hc
                  obtain ⟨x, ex⟩ : ∃ x, x7.items[i]? = some x := ⟨_, List.getElem?_eq_getElem hlt⟩
                  have s1 : ((x7.items.take i).map fun x => AV.int .u64 (takeOf x.text).1) ++ [AV.int .u64 (takeOf x.text).1] = ((x7.items.take (i + 1)).map fun x => AV.int .u64 (takeOf x.text).1) := take_snoc (fun x : ItemD => AV.int .u64 (takeOf x.text).1) ex
                  simp only [go_sem, seval, e7, eL, List.length_map, List.getElem?_map, ex, ItemD.av_eq, ItemD.cells, Int.toNat_natCast, Int.cast_ofNat_Int]
                  repeat with_reducible refine And.intro (by first | omega | (simp only [List.length_cons, List.length_append, List.length_nil, List.length_map, List.length_take, List.length_drop, List.length_set]; omega)) ?_
                  try simp only [go_sem, seval, ItemD.av_eq, ItemD.cells]
                  refine ex_call (by exact c_ref4_TakeMark x.text) ?_
                  cases hb : (takeOf x.text).2 with
                  | false =>
                    rw [if_neg (by rw [all_no ex hb]; simp)]
                    simp only [go_sem, seval]
                    refine finTupD (vs' := zeroVe (.bool false)) ?_ (fins3 (zero_dull _ _ (.nil _ _) (.nil _ _)) _)
                    show resOf _ _ [.cell 2 49, .tmp 3] = _
                    simp only [go_sem, seval, zeroVe]
                  | true =>
                    simp only [go_sem, seval, List.length_map]
                    repeat with_reducible refine And.intro (by first | omega | (simp only [List.length_cons, List.length_append, List.length_nil, List.length_map, List.length_take, List.length_drop, List.length_set]; omega)) ?_
                    refine next (i + 1) _ ⟨by omega, by rw [all_take ex, hall, hb]; rfl⟩ (by omega) ?_
                    rw [← wi64_nat i (by omega), ← s1]
                    simp only [ASt.keep, consIf, keepL, keepV, AV.isBot, List.contains_cons, List.contains_nil, Nat.reduceBEq, Bool.or_false, Bool.false_or, Bool.or_true, Bool.true_or, beq_self_eq_true, Bool.false_eq_true, ↓reduceIte, if_false, if_true]
                · have hie : i = x7.items.length := by simp at hc; omega
                  subst hie
                  rw [List.take_length] at hall ⊢
                  rw [if_pos hall]
                  obtain ⟨L7, hL7⟩ : ∃ L7, L7 = x7.items.map fun x => AV.int .u64 (takeOf x.text).1 := ⟨_, rfl⟩
                  rw [← hL7]
                  simp only [go_sem, seval]
                  refine ex_iter [2, 4, 8, 9, 15] (fun i : Nat => ⟨[(2, .var 2 0), (4, .var 4 0), (8, .sl false 3 LS), (9, .var 9 0), (15, .int .i64 i)], [(2, [.int .i64 (0 : Int), .int .i64 (0 : Int), .int .u64 (0 : Int), .int .u64 (0 : Int), .int .u64 (0 : Int), .int .u64 (0 : Int), .int .u64 (0 : Int), .int .u64 (0 : Int), .int .u64 (0 : Int), .int .u64 (0 : Int), .int .u64 (0 : Int), .int .u64 (0 : Int), .int .u64 (0 : Int), .int .u64 (0 : Int), .int .u64 (0 : Int), .int .u64 (0 : Int), .int .u64 (0 : Int), .int .u64 (0 : Int), .int .i64 (0 : Int), .own false 1 [], .own false 1 []]), (4, [.int .i64 (0 : Int), .int .i64 (0 : Int), .int .u64 (0 : Int), .int .u64 (0 : Int), .int .u64 (0 : Int), .int .u64 (0 : Int), .int .u64 (0 : Int), .int .u64 (0 : Int), .int .u64 (0 : Int), .int .u64 (0 : Int), .int .u64 (0 : Int), .int .u64 (0 : Int), .int .u64 (0 : Int), .int .u64 (0 : Int), .int .u64 (0 : Int), .int .u64 (0 : Int), .int .u64 (0 : Int), .int .u64 (0 : Int), .int .i64 (0 : Int), .ext nilP, .ext nilP]), (9, [.int .i64 ((takeU x0.text).1 : Int), .int .i64 ((takeU x1.text).1 : Int), .int .u64 (lim (takeU x2.text).1 0), .int .u64 (lim (takeU x2.text).1 1), .int .u64 (lim (takeU x2.text).1 2), .int .u64 (lim (takeU x2.text).1 3), .int .u64 (lim (takeU x3.text).1 0), .int .u64 (lim (takeU x3.text).1 1), .int .u64 (lim (takeU x3.text).1 2), .int .u64 (lim (takeU x3.text).1 3), .int .u64 (lim (takeU x4.text).1 0), .int .u64 (lim (takeU x4.text).1 1), .int .u64 (lim (takeU x4.text).1 2), .int .u64 (lim (takeU x4.text).1 3), .int .u64 (lim (takeU x5.text).1 0), .int .u64 (lim (takeU x5.text).1 1), .int .u64 (lim (takeU x5.text).1 2), .int .u64 (lim (takeU x5.text).1 3), .int .i64 ((takeU x6.text).1 : Int), .own false 1 L7, .own false 1 ((x8.items.take i).map fun x => AV.str x.text)])]⟩) (fun i => i ≤ x8.items.length ∧ (x8.items.take i).all (fun x => !x.list) = true) (fun i => x8.items.length - i) 0 ?_ ?_ ?_
                  · simp only [ASt.keep, consIf, keepL, keepV, AV.isBot, List.contains_cons, List.contains_nil, Nat.reduceBEq, Bool.or_false, Bool.false_or, Bool.or_true, Bool.true_or, beq_self_eq_true, Bool.false_eq_true, ↓reduceIte, if_false, if_true]
                    rfl
                  · exact ⟨Nat.zero_le _, rfl⟩
                  · rintro r i ⟨hin, hall8⟩ next
                    simp only [go_sem, seval, e8, eL, List.length_map, Int.cast_ofNat_Int]
                    refine ex_br (fun hc => ?_) (fun hc => ?_)
                    · have hlt : i < x8.items.length := by simpa using hc
                      obtain ⟨x, ex⟩ : ∃ x, x8.items[i]? = some x := ⟨_, List.getElem?_eq_getElem hlt⟩
                      have s1 : ((x8.items.take i).map fun x => AV.str x.text) ++ [AV.str x.text] = ((x8.items.take (i + 1)).map fun x => AV.str x.text) := take_snoc (fun x : ItemD => AV.str x.text) ex
                      cases hb : x.list with
                      | true =>
                        rw [if_neg (by rw [all_no ex (by rw [hb]; rfl)]; simp)]
                        simp only [go_sem, seval, e8, eL, List.length_map, List.getElem?_map, ex, ItemD.av_eq, ItemD.cells, Int.toNat_natCast, Int.cast_ofNat_Int]
                        repeat with_reducible refine And.intro (by first | omega | (simp only [List.length_cons, List.length_append, List.length_nil, List.length_map, List.length_take, List.length_drop, List.length_set]; omega)) ?_
                        try simp only [go_sem, seval, ItemD.av_eq, ItemD.cells, hb]
                        refine finTupD (vs' := zeroVe (.bool false)) ?_ (fins3 (zero_dull _ _ (.nil _ _) (.nil _ _)) _)
                        show resOf _ _ [.cell 2 49, .tmp 3] = _
                        simp only [go_sem, seval, zeroVe]
                      | false =>
                        simp only [go_sem, seval, e8, eL, List.length_map, List.getElem?_map, ex, ItemD.av_eq, ItemD.cells, Int.toNat_natCast, Int.cast_ofNat_Int]
                        repeat with_reducible refine And.intro (by first | omega | (simp only [List.length_cons, List.length_append, List.length_nil, List.length_map, List.length_take, List.length_drop, List.length_set]; omega)) ?_
                        try simp only [go_sem, seval, ItemD.av_eq, ItemD.cells, hb]
                        refine ex_draw [13] [] (.quiet 0 (.quiet 1 (.quiet 2 (.quiet 3 (.quiet 4 (.quiet 5 (.quiet 6 (.quiet 7 (.quiet 8 (.quiet 9 (.one 10 (.one 11 (.quiet 12 (.unlock (.one 13 (.fin)))))))))))))))) (by kernel_rfl) ?_
                        simp only [go_sem, seval, e8, eL, List.length_map, List.getElem?_map, ex, ItemD.av_eq, ItemD.cells, Int.toNat_natCast, Int.cast_ofNat_Int]
                        repeat with_reducible refine And.intro (by first | omega | (simp only [List.length_cons, List.length_append, List.length_nil, List.length_map, List.length_take, List.length_drop, List.length_set]; omega)) ?_
                        try simp only [go_sem, seval, ItemD.av_eq, ItemD.cells, List.length_map]
                        repeat with_reducible refine And.intro (by first | omega | (simp only [List.length_cons, List.length_append, List.length_nil, List.length_map, List.length_take, List.length_drop, List.length_set]; omega)) ?_
                        refine next (i + 1) _ ⟨by omega, by rw [all_take ex, hall8, hb]; rfl⟩ (by omega) ?_
                        rw [← wi64_nat i (by omega), ← s1]
                        simp only [ASt.keep, consIf, keepL, keepV, AV.isBot, List.contains_cons, List.contains_nil, Nat.reduceBEq, Bool.or_false, Bool.false_or, Bool.or_true, Bool.true_or, beq_self_eq_true, Bool.false_eq_true, ↓reduceIte, if_false, if_true]
                    · have hie : i = x8.items.length := by simp at hc; omega
                      subst hie
                      rw [List.take_length] at hall8 ⊢
                      rw [if_pos hall8]
                      obtain ⟨L8, hL8⟩ : ∃ L8, L8 = x8.items.map fun x => AV.str x.text := ⟨_, rfl⟩
                      rw [← hL8]
                      have hav : (fieldsTx x0 x1 x2 x3 x4 x5 x6 x7 x8).av = .agg [.int .i64 ((takeU x0.text).1 : Int), .int .i64 ((takeU x1.text).1 : Int), .int .u64 (lim (takeU x2.text).1 0), .int .u64 (lim (takeU x2.text).1 1), .int .u64 (lim (takeU x2.text).1 2), .int .u64 (lim (takeU x2.text).1 3), .int .u64 (lim (takeU x3.text).1 0), .int .u64 (lim (takeU x3.text).1 1), .int .u64 (lim (takeU x3.text).1 2), .int .u64 (lim (takeU x3.text).1 3), .int .u64 (lim (takeU x4.text).1 0), .int .u64 (lim (takeU x4.text).1 1), .int .u64 (lim (takeU x4.text).1 2), .int .u64 (lim (takeU x4.text).1 3), .int .u64 (lim (takeU x5.text).1 0), .int .u64 (lim (takeU x5.text).1 1), .int .u64 (lim (takeU x5.text).1 2), .int .u64 (lim (takeU x5.text).1 3), .int .i64 ((takeU x6.text).1 : Int), .sl false 1 L7, .sl false 1 L8] := by
                        rw [hL7, hL8]
                        unfold fieldsTx TxD.av TxD.cells ints strs eachI
                        rw [if_pos l7, if_pos l8]
                        simp only [List.map_map]
                        rfl
                      have hd : Dull (.agg [.int .i64 ((takeU x0.text).1 : Int), .int .i64 ((takeU x1.text).1 : Int), .int .u64 (lim (takeU x2.text).1 0), .int .u64 (lim (takeU x2.text).1 1), .int .u64 (lim (takeU x2.text).1 2), .int .u64 (lim (takeU x2.text).1 3), .int .u64 (lim (takeU x3.text).1 0), .int .u64 (lim (takeU x3.text).1 1), .int .u64 (lim (takeU x3.text).1 2), .int .u64 (lim (takeU x3.text).1 3), .int .u64 (lim (takeU x4.text).1 0), .int .u64 (lim (takeU x4.text).1 1), .int .u64 (lim (takeU x4.text).1 2), .int .u64 (lim (takeU x4.text).1 3), .int .u64 (lim (takeU x5.text).1 0), .int .u64 (lim (takeU x5.text).1 1), .int .u64 (lim (takeU x5.text).1 2), .int .u64 (lim (takeU x5.text).1 3), .int .i64 ((takeU x6.text).1 : Int), .sl true 1 L7, .sl true 1 L8]) (fieldsTx x0 x1 x2 x3 x4 x5 x6 x7 x8).av := by
                        rw [hav]
                        refine dulls_agg ?_
                        repeat' (first | exact Dulls.nil | exact Dull.refl _ | exact dsl _ _ _ | refine Dulls.cons ?_ ?_)
                      have hT := c_ref7_Tx _ hFo
                      simp only [go_sem, seval]
                      refine ex_call_dull (.cons hd .nil) (by exact hT) ?_
                      cases hv : validTx (fieldsTx x0 x1 x2 x3 x4 x5 x6 x7 x8) with
                      | false =>
                        rw [if_neg (by simp)]
                        simp only [go_sem, seval]
                        refine finTupD (vs' := zeroVe (.bool false)) ?_ (fins3 (zero_dull _ _ (.nil _ _) (.nil _ _)) _)
                        show resOf _ _ [.cell 2 49, .tmp 3] = _
                        simp only [go_sem, seval, zeroVe]
                      | true =>
                        rw [if_pos rfl]
                        simp only [go_sem, seval]
                        refine finTupD (vs' := [.agg [.int .i64 ((takeU x0.text).1 : Int), .int .i64 ((takeU x1.text).1 : Int), .int .u64 (lim (takeU x2.text).1 0), .int .u64 (lim (takeU x2.text).1 1), .int .u64 (lim (takeU x2.text).1 2), .int .u64 (lim (takeU x2.text).1 3), .int .u64 (lim (takeU x3.text).1 0), .int .u64 (lim (takeU x3.text).1 1), .int .u64 (lim (takeU x3.text).1 2), .int .u64 (lim (takeU x3.text).1 3), .int .u64 (lim (takeU x4.text).1 0), .int .u64 (lim (takeU x4.text).1 1), .int .u64 (lim (takeU x4.text).1 2), .int .u64 (lim (takeU x4.text).1 3), .int .u64 (lim (takeU x5.text).1 0), .int .u64 (lim (takeU x5.text).1 1), .int .u64 (lim (takeU x5.text).1 2), .int .u64 (lim (takeU x5.text).1 3), .int .i64 ((takeU x6.text).1 : Int), .sl true 1 L7, .sl true 1 L8], .bool true]) ?_ (fins3 hd _)
                        show resOf _ _ [.cell 2 49, .tmp 3] = _
                        simp only [go_sem, seval]
        · rw [refTx_len h9]
          have e9 : ((it.items.length : Int) != 9) = true := by simp; omega
          refine contract_of (C := cf 199 [0, 2, 3, 4, 5, 6, 7, 8, 9, 10, 11, 12, 13, 14, 15, 57, 125, 131, 139, 155, 169, 179, 196] (fun _ => [])) (cf_ok _ _ _) (fn := Try.f15) Try.func15 (by kernel_rfl) rfl (by kernel_rfl) (by simp [cf]) (plain1 (.str _)) (by decide) (cellsOk (by kernel_rfl)) ?_
          simp only [go_sem, seval]
          refine ex_call (by exact h1) ?_
          simp only [go_sem, seval, Int.cast_ofNat_Int, ek, e9, List.length_map]
          refine finTupD (vs' := zeroVe (.bool false)) ?_ (fins3 (zero_dull _ _ (.nil _ _) (.nil _ _)) _)
          show resOf _ _ [.cell 2 49, .tmp 3] = _
          simp only [go_sem, seval, zeroVe]
end Go.Proofs.Ytdenldjlijoeoaa.VA
end
section
/- The page's difference. -/
namespace Go.Proofs.Ytdenldjlijoeoaa.VA
set_option maxRecDepth 10000
set_option linter.unusedSimpArgs false
set_option linter.unusedVariables false
set_option maxHeartbeats 8000000

/-- One step of a difference: what is left, what is owed. -/
theorem sb_step (x y c : Nat) (hx : x < 18446744073709551616) (hy : y < 18446744073709551616) (hc : c ≤ 1) : ∃ s k : Nat, s < 18446744073709551616 ∧ k ≤ 1 ∧ s + y + c = x + 18446744073709551616 * k := by
  by_cases h : y + c ≤ x
  · exact ⟨x - y - c, 0, by omega, by omega, by omega⟩
  · exact ⟨x + 18446744073709551616 - y - c, 1, by omega, by omega, by omega⟩
theorem ref_sub {x y c s k : Nat} (hx : x < 18446744073709551616) (hy : y < 18446744073709551616) (hc : c ≤ 1) (hs : s < 18446744073709551616) (hk : k ≤ 1) (h : s + y + c = x + 18446744073709551616 * k) :
    IntKind.u64.wrap (IntKind.u64.wrap ((x : Int) - y) - c) = s ∧
    (bif decide (IntKind.u64.wrap ((x : Int) - y) < (c : Int)) then 1 else bif decide ((x : Int) < y) then (1 : Int) else 0) = k := by
  simp only [IntKind.wrap_u64]
  refine ⟨by omega, ?_⟩
  cases h1 : decide ((((x : Int) - y) % 18446744073709551616) < (c : Int)) <;> cases h2 : decide ((x : Int) < y) <;> simp only [cond_true, cond_false] <;> simp only [decide_eq_true_eq, decide_eq_false_iff_not] at h1 h2 <;> omega
end Go.Proofs.Ytdenldjlijoeoaa.VA
end
section
/- What a transaction costs, what it pays; the difference of numbers. -/
namespace Go.Proofs.Ytdenldjlijoeoaa.VA
set_option maxRecDepth 10000
set_option linter.unusedSimpArgs false
set_option linter.unusedVariables false
set_option maxHeartbeats 8000000

theorem validTx_parts {t : TxD} (h : validTx t = true) : (0 ≤ t.frm ∧ t.frm < 8) ∧ (0 ≤ t.nonce ∧ t.nonce ≤ 1099511627776) ∧ (0 ≤ t.gas ∧ t.gas ≤ 1073741824) ∧ t.tip ≤ t.cap ∧ (1 ≤ t.blobs.length ∧ t.blobs.length ≤ 4) ∧ costOf t < U := by
  simp only [validTx, Bool.and_eq_true, decide_eq_true_eq] at h
  have := fits_len h.1.2
  exact ⟨by omega, by omega, by omega, by omega, ⟨this.1, this.2.1⟩, h.2⟩
/-! The difference. -/
def sbS (x y c : Int) : Int := (((x.toNat + 18446744073709551616 - y.toNat - c.toNat) % 18446744073709551616 : Nat) : Int)
def sbC (x y c : Int) : Int := if x.toNat < y.toNat + c.toNat then 1 else 0
def sub64Entry : Array Value → Sem Value := fun args => do
  let (x, y, b) ← Extern.MathBitsCarry.three "Sub64" args
  pure (Extern.MathBitsCarry.pair ((x + Extern.MathBitsCarry.m64 - y - b) % Extern.MathBitsCarry.m64) (if x < y + b then 1 else 0))
theorem run_sub64 {P : Program} (x y c : Int) (hc : c = 0 ∨ c = 1) (w : World) : (sub64Entry #[.int .u64 x, .int .u64 y, .int .u64 c]).run P w = .ok (.tuple #[.int .u64 (sbS x y c), .int .u64 (sbC x y c)]) w := by
  have key : ∀ k : Nat, k = 0 ∨ k = 1 → (sub64Entry #[.int .u64 x, .int .u64 y, .int .u64 (k : Int)]).run P w =
      .ok (Extern.MathBitsCarry.pair ((x.toNat + Extern.MathBitsCarry.m64 - y.toNat - k) % Extern.MathBitsCarry.m64) (if x.toNat < y.toNat + k then 1 else 0)) w := by
    intro k hk
    rcases hk with rfl | rfl <;> rfl
  obtain ⟨k, rfl, hk⟩ : ∃ k : Nat, c = (k : Int) ∧ (k = 0 ∨ k = 1) := by
    rcases hc with rfl | rfl
    · exact ⟨0, rfl, .inl rfl⟩
    · exact ⟨1, rfl, .inr rfl⟩
  rw [key k hk]
  unfold sbS sbC Extern.MathBitsCarry.pair
  rw [Int.toNat_natCast]
  congr 5
  split <;> rfl
theorem sb_eq {x y c s k : Nat} (hx : x < 18446744073709551616) (hy : y < 18446744073709551616) (hc : c ≤ 1) (hs : s < 18446744073709551616) (hk : k ≤ 1) (e : s + y + c = x + 18446744073709551616 * k) :
    sbS x y c = s ∧ sbC x y c = k := by
  unfold sbS sbC
  simp only [Int.toNat_natCast]
  refine ⟨by omega, ?_⟩
  split <;> omega
/-! What is paid. -/
def payOf (t : TxD) (b : Nat) : Nat := if t.tip < t.cap - b then t.tip else t.cap - b
theorem payOf_lt {t : TxD} (h : t.ok) (b : Nat) : payOf t b < U := by
  have := h.tip
  have := h.cap
  unfold payOf
  split <;> omega
theorem u_E (n : Nat) : u n = .agg [.int .u64 (lim n 0), .int .u64 (lim n 1), .int .u64 (lim n 2), .int .u64 (lim n 3)] := rfl
end Go.Proofs.Ytdenldjlijoeoaa.VA
end
section
/- Transactions among the data that a law is asked with. -/
namespace Go.Proofs.Ytdenldjlijoeoaa.VA
set_option linter.unusedVariables false
set_option linter.unusedSimpArgs false

theorem wf_i64 {n : Int} (h : (Lit.int .i64 n).wf = true) : -9223372036854775808 ≤ n ∧ n ≤ 9223372036854775807 := by
  simp only [Lit.wf, IntKind.min, IntKind.max, IntKind.signed, IntKind.bits, Bool.and_eq_true, decide_eq_true_eq, if_true, Bool.false_eq_true, if_false] at h
  omega
theorem wf_u64 {n : Int} (h : (Lit.int .u64 n).wf = true) : 0 ≤ n ∧ n < 18446744073709551616 := by
  simp only [Lit.wf, IntKind.min, IntKind.max, IntKind.signed, IntKind.bits, Bool.and_eq_true, decide_eq_true_eq, if_true, Bool.false_eq_true, if_false] at h
  omega
theorem ty_u {x : AV} (h : Ty ti 45 x) : ∃ n : Nat, x = u n ∧ n < U := by
  obtain ⟨xs, rfl, hn, hall⟩ := ty_arr (n := 4) (e := 43) (esz := 1) (by rw [ti45]) h
  match xs, hn with
  | [x0, x1, x2, x3], _ =>
    obtain ⟨a, rfl, ha⟩ := ty_int (k := .u64) (by rw [ti43]) (hall x0 (by simp))
    obtain ⟨b, rfl, hb⟩ := ty_int (k := .u64) (by rw [ti43]) (hall x1 (by simp))
    obtain ⟨c, rfl, hc⟩ := ty_int (k := .u64) (by rw [ti43]) (hall x2 (by simp))
    obtain ⟨d, rfl, hd⟩ := ty_int (k := .u64) (by rw [ti43]) (hall x3 (by simp))
    have ha := wf_u64 ha
    have hb := wf_u64 hb
    have hc := wf_u64 hc
    have hd := wf_u64 hd
    obtain ⟨a, rfl⟩ := Int.eq_ofNat_of_zero_le ha.1
    obtain ⟨b, rfl⟩ := Int.eq_ofNat_of_zero_le hb.1
    obtain ⟨c, rfl⟩ := Int.eq_ofNat_of_zero_le hc.1
    obtain ⟨d, rfl⟩ := Int.eq_ofNat_of_zero_le hd.1
    refine ⟨a + 18446744073709551616 * b + 340282366920938463463374607431768211456 * c + 6277101735386680763835789423207666416102355444464034512896 * d, ?_, ?_⟩
    · rw [u_eq (a := a) (b := b) (c := c) (d := d) (by omega) (by omega) (by omega) (by omega) rfl]
      rfl
    · unfold U; omega
theorem ty_tx {x : AV} (h : Ty ti 49 x) : ∃ t : TxD, x = t.av ∧ t.ok := by
  obtain ⟨xs, rfl, hn, hall⟩ := ty_struct (fs := [(0, 1, 3), (1, 1, 3), (2, 4, 45), (6, 4, 45), (10, 4, 45), (14, 4, 45), (18, 1, 3), (19, 1, 46), (20, 1, 47)]) (by rw [ti49]) h
  match xs, hn with
  | [x0, x1, x2, x3, x4, x5, x6, x7, x8], _ =>
    obtain ⟨f, rfl, h0⟩ := ty_int (k := .i64) (by rw [ti3]) (hall 0 _ _ _ x0 rfl rfl)
    obtain ⟨n, rfl, h1⟩ := ty_int (k := .i64) (by rw [ti3]) (hall 1 _ _ _ x1 rfl rfl)
    obtain ⟨p, rfl, h2⟩ := ty_u (hall 2 _ _ _ x2 rfl rfl)
    obtain ⟨c, rfl, h3⟩ := ty_u (hall 3 _ _ _ x3 rfl rfl)
    obtain ⟨b, rfl, h4⟩ := ty_u (hall 4 _ _ _ x4 rfl rfl)
    obtain ⟨v, rfl, h5⟩ := ty_u (hall 5 _ _ _ x5 rfl rfl)
    obtain ⟨g, rfl, h6⟩ := ty_int (k := .i64) (by rw [ti3]) (hall 6 _ _ _ x6 rfl rfl)
    obtain ⟨hs, rfl, a7, b7⟩ := ty_ints (e := 43) (eb := 8) (k := .u64) (by rw [ti46]) (by rw [ti43]) (hall 7 _ _ _ x7 rfl rfl)
    obtain ⟨bs, rfl, a8, b8⟩ := ty_strs (e := 9) (eb := 16) (by rw [ti47]) (by rw [ti9]) (hall 8 _ _ _ x8 rfl rfl)
    exact ⟨⟨f, n, p, c, b, v, g, hs, bs⟩, rfl, wf_i64 h0, wf_i64 h1, wf_i64 h6, h2, h3, h4, h5, a7, a8, b8⟩
end Go.Proofs.Ytdenldjlijoeoaa.VA
end
