/- limbo.Final: what stays and what is gone share nothing. limbo.Pull: what it tells is of new memory alone. The page's own push into a limbo. LimboExact: the law. -/
import Derived.Test.YtpepfhbfooeoeaaT1
import Derived.Test.YtpepfhbfooeoeaaT2
import Derived.Test.YtpepfhbfooeoeaaT3
import Derived.Test.YtpepfhbfooeoeaaT4
import Derived.Test.YtpepfhbfooeoeaaT5
import Derived.Test.YtpepfhbfooeoeaaT6
set_option linter.unusedSimpArgs false
set_option linter.unusedVariables false
section
namespace Go.Proofs.Ytpepfhbfooeoeaa.VA
set_option maxRecDepth 10000
set_option maxHeartbeats 16000000

def cellG (col : Nat → Option Nat) (q : HeldD × Nat) : AV := heldG col q.2 q.1
def pickZ (z : List (HeldD × Nat)) (p : HeldD → Bool) : List (HeldD × Nat) := z.filter fun q => p q.1
theorem pick_take {z : List (HeldD × Nat)} {p : HeldD → Bool} {i : Nat} {q : HeldD × Nat} (e : z[i]? = some q) : pickZ (z.take (i + 1)) p = pickZ (z.take i) p ++ (if p q.1 = true then [q] else []) := by
  unfold pickZ
  rw [List.take_add_one, e, List.filter_append]
  split <;> simp_all
theorem pick_len (z : List (HeldD × Nat)) (p : HeldD → Bool) (i : Nat) : (pickZ (z.take i) p).length ≤ i := Nat.le_trans (List.length_filter_le _ _) (List.length_take_le _ _)
theorem pick_fst (l : List HeldD) (p : HeldD → Bool) : (pickZ l.zipIdx p).map Prod.fst = l.filter p := by
  have h := List.filter_map (f := Prod.fst) (p := p) (l := l.zipIdx)
  rw [List.zipIdx_map_fst] at h
  exact h.symm
theorem run_Final (l : List HeldD) (b : Int) (hl : l.length * 208 ≤ reachBytes) (hok : ∀ a ∈ l, a.ok) (hf : finalOk l b = true) {I : Imm} {w : World} {vs : List Value} {gs : List Nat} (hI : Imm.ok I w) (hreps0 : VReps (fun _ => True) I w [limbo l, .int .i64 b] vs gs) (hnd : gs.Nodup) :
    Calls Try.prog 63 vs.toArray w (Ended (cf 44 [0, 1, 4, 5, 6, 7, 8, 10, 21, 23, 24, 25, 26, 32] (fun _ => [])) (fun _ => False) (fun col : Nat → Option Nat => .tup [.own false 22 ((pickZ l.zipIdx fun h => decide (b < h.n)).map (cellG col)), .own false 22 ((pickZ l.zipIdx fun h => decide (h.n ≤ b)).map (cellG col)), .int .i64 (0 : Int)]) (fun _ _ => True) I w gs) := by
  have hreps : VReps (fun b => False ∨ w.heap.size ≤ b ∨ b ∈ gs) I w [limbo l, .int .i64 b] vs gs := VReps.plain _ _ _ hreps0 (plain2 (limbo_plain l) (.int _ _))
  have hP := c_pool_Limbo l hl hok
  have hH := g_Helds l hl hok
  unfold reachBytes at hl
  unfold finalOk at hf
  simp only [Bool.and_eq_true, decide_eq_true_eq] at hf
  obtain ⟨h1, h2, h3⟩ := hf
  rw [h1] at hP
  have d2 : decide (b < 0) = false := decide_eq_false (by omega)
  have d3 : decide (b > 1099511627776) = false := decide_eq_false (by omega)
  have hzl : l.zipIdx.length = l.length := List.length_zipIdx
  generalize hz : l.zipIdx = z at *
  have hrow : ∀ col, rowG col l = z.map (cellG col) := fun col => by rw [← hz]; rfl
  refine body_of (C := cf 44 [0, 1, 4, 5, 6, 7, 8, 10, 21, 23, 24, 25, 26, 32] (fun _ => [])) _ (fun col : Nat → Option Nat => .tup [.own false 22 ((pickZ z fun h => decide (b < h.n)).map (cellG col)), .own false 22 ((pickZ z fun h => decide (h.n ≤ b)).map (cellG col)), .int .i64 (0 : Int)]) (fun _ _ => True) (cf_ok _ _ _) (fn := Try.f63) Try.func63 rfl (by kernel_rfl) (by simp [cf]) (by decide) (noCell (by kernel_rfl)) ?_ rfl (by kernel_rfl) (by rintro ⟨f, e⟩; cases e) hI hreps hnd
  simp only [go_sem, seval, limbo, List.length_map]
  refine ex_call (by exact hP) ?_
  simp only [go_sem, seval, d2, d3]
  refine ex_ghost (.cons (.refl _) .nil) (by exact hH) (fun col => ?_)
  rw [hrow col]
  simp only [go_sem, seval, List.length_map, hzl]
  refine ex_iter [1, 7, 8, 23, 24, 25] (fun i : Nat => ⟨[(1, .int .i64 b), (7, .own false 22 ((pickZ (z.take i) fun h => decide (b < h.n)).map (cellG col))), (8, .own false 22 ((pickZ (z.take i) fun h => decide (h.n ≤ b)).map (cellG col))), (23, .own false 22 (z.map (cellG col))), (24, .int .i64 l.length), (25, .int .i64 i)], [], []⟩) (fun i => i ≤ l.length) (fun i => l.length - i) 0 ?_ ?_ ?_
  · simp only [ASt.keep, consIf, keepL, keepV, AV.isBot, List.contains_cons, List.contains_nil, Nat.reduceBEq, Bool.or_false, Bool.false_or, Bool.or_true, Bool.true_or, beq_self_eq_true, Bool.false_eq_true, ↓reduceIte, if_false, if_true]
    try rfl
  · exact Nat.zero_le _
  · intro n i hi next
    simp only [go_sem, seval, List.length_map]
    refine ex_br (fun h => ?_) (fun h => ?_)
    · have hlt : i < l.length := by simpa using h
      obtain ⟨⟨x, k⟩, ex⟩ : ∃ q, z[i]? = some q := ⟨_, List.getElem?_eq_getElem (by omega)⟩
      have l1 := pick_len z (fun h => decide (b < h.n)) i
      have l2 := pick_len z (fun h => decide (h.n ≤ b)) i
      have s1 := pick_take (p := fun h => decide (b < h.n)) ex
      have s2 := pick_take (p := fun h => decide (h.n ≤ b)) ex
      dsimp only at s1 s2
      cases hd : decide (x.n ≤ b) with
      | true =>
        have hd2 := of_decide_eq_true hd
        rw [if_neg (by rw [decide_eq_true_eq]; omega), List.append_nil] at s1
        rw [if_pos hd] at s2
        simp only [go_sem, seval, hd, List.length_map, List.getElem?_map, ex, Int.toNat_natCast, cellG, heldG]
        repeat with_reducible refine And.intro (by first | omega | (simp only [List.length_cons, List.length_append, List.length_nil, List.length_map, List.length_take, List.length_drop, List.length_set]; omega)) ?_
        try simp only [go_sem, seval, hd, List.length_map, List.getElem?_map, ex, Int.toNat_natCast, cellG, heldG]
        repeat with_reducible refine And.intro (by first | omega | (simp only [List.length_cons, List.length_append, List.length_nil, List.length_map, List.length_take, List.length_drop, List.length_set]; omega)) ?_
        try simp only [go_sem, seval, hd, List.length_map, List.getElem?_map, ex, Int.toNat_natCast, cellG, heldG]
        refine next (i + 1) _ (by omega) (by omega) ?_
        rw [s1, s2, List.map_append, ← wi64_nat i (by omega)]
        simp only [ASt.keep, consIf, keepL, keepV, AV.isBot, List.contains_cons, List.contains_nil, Nat.reduceBEq, Bool.or_false, Bool.false_or, Bool.or_true, Bool.true_or, beq_self_eq_true, Bool.false_eq_true, ↓reduceIte, if_false, if_true]
        try rfl
      | false =>
        have hd2 := of_decide_eq_false hd
        rw [if_pos (by rw [decide_eq_true_eq]; omega)] at s1
        rw [if_neg (by rw [hd]; decide), List.append_nil] at s2
        simp only [go_sem, seval, hd, List.length_map, List.getElem?_map, ex, Int.toNat_natCast, cellG, heldG]
        repeat with_reducible refine And.intro (by first | omega | (simp only [List.length_cons, List.length_append, List.length_nil, List.length_map, List.length_take, List.length_drop, List.length_set]; omega)) ?_
        try simp only [go_sem, seval, hd, List.length_map, List.getElem?_map, ex, Int.toNat_natCast, cellG, heldG]
        repeat with_reducible refine And.intro (by first | omega | (simp only [List.length_cons, List.length_append, List.length_nil, List.length_map, List.length_take, List.length_drop, List.length_set]; omega)) ?_
        try simp only [go_sem, seval, hd, List.length_map, List.getElem?_map, ex, Int.toNat_natCast, cellG, heldG]
        refine next (i + 1) _ (by omega) (by omega) ?_
        rw [s1, s2, List.map_append, ← wi64_nat i (by omega)]
        simp only [ASt.keep, consIf, keepL, keepV, AV.isBot, List.contains_cons, List.contains_nil, Nat.reduceBEq, Bool.or_false, Bool.false_or, Bool.or_true, Bool.true_or, beq_self_eq_true, Bool.false_eq_true, ↓reduceIte, if_false, if_true]
        try rfl
    · have hge : i = l.length := by simp at h; omega
      subst hge
      have ht : z.take l.length = z := List.take_of_length_le (by omega)
      rw [ht]
      simp only [go_sem, seval]
      refine ⟨col, ?_⟩
      exact .tup (.cons (.dull (.refl _)) (.cons (.dull (.refl _)) (.cons (.dull (.refl _)) .nil)))
theorem c_Final_no (l : List HeldD) (b : Int) (hl : l.length * 208 ≤ reachBytes) (hok : ∀ a ∈ l, a.ok) (hf : finalOk l b = false) : Contract Try.prog 63 [limbo l, .int .i64 b] (.tup [.own false 22 [], .own false 22 [], .int .i64 (1 : Int)]) := by
  have h := c_limbo_Final l b hl hok
  rw [hf] at h
  exact h

/-! Two colours, taken together with the mark. -/
theorem flat_both {M N : Nat → Prop} {I J : Imm} {es : List AV} {u : Value} (hf : ∀ e ∈ es, ∀ v, AR M I e v → AR (fun b => M b ∧ N b) I e v) (h1 : AR M I (.sl true 1 es) u) (h2 : AR N J (.sl true 1 es) u) : AR (fun b => M b ∧ N b) I (.sl true 1 es) u := by
  cases h1 with
  | slnil fr sz base cap => exact .slnil _ _ _ _
  | sl fr sz es b o n cap hn hc vs hv hz hI hM =>
    cases es with
    | nil =>
      subst hn
      exact .slnil _ _ _ _
    | cons e es =>
      cases h2 with
      | sl fr sz es b o n cap hn' hc' vs' hv' hz' hI' hM' => exact .sl _ _ _ _ _ _ _ hn hc vs (fun i y hy => hf y (List.mem_of_getElem? hy) _ (hv i y hy)) hz hI fun hf => ⟨hM hf, hM' hf⟩
theorem hd_turn {M N : Nat → Prop} {I : Imm} {col : Nat → Option Nat} {k : Nat} {es : List AV} (hw : Wide (.sl true 1 es)) (hf : ∀ e ∈ es, ∀ (P Q : Nat → Prop) v, AR P I e v → AR Q I e v) (hN : ∀ b, M b → col b = some k → (∃ o u, I b o = some u) → N b) :
    ∀ u, AR M I (.hd true (.sl true 1 es) (colP col k (.sl true 1 es))) u → AR N I (.sl true 1 es) u := fun u h => by
  cases h with
  | hd _ _ _ J _ hx hi hJ h1 hp =>
    have hp : AR (fun b => col b = some k) J (.sl true 1 es) u := hp
    have h2 := (flat_both (fun e he v hv => hf e he _ _ v hv) hx hp).wide hw
    exact h2.mono (fun b hb => hN b hb.1.1 hb.1.2 hb.2) (Imm.leRefl I)
theorem cell_turn {M N : Nat → Prop} {I : Imm} {col : Nat → Option Nat} {k : Nat} (h : HeldD) (hN : ∀ b, M b → col b = some k → (∃ o u, I b o = some u) → N b) {v : Value} (ha : AR M I (heldG col k h) v) : AR N I h.dull v := by
  refine agg_turn ?_ ?_ (show AR M I (.agg _) v from ha)
  · rfl
  refine all2_cons (int_turn _ _) (all2_cons (int_turn _ _) ?_)
  iterate 17 refine all2_cons (int_turn _ _) ?_
  refine all2_cons (hd_turn (ints_wide _ _ fun a => .int _ _) (fun e he P Q v hv => ?_) hN) (all2_cons (hd_turn (ints_wide _ _ fun a => .str _) (fun e he P Q v hv => ?_) hN) (all2_cons (int_turn _ _) all2_nil))
  · obtain ⟨a, _, rfl⟩ := List.mem_map.1 he
    cases hv; exact .int _ _
  · obtain ⟨a, _, rfl⟩ := List.mem_map.1 he
    cases hv; exact .str _
theorem row_turn {M N : Nat → Prop} {I : Imm} {w : World} {col : Nat → Option Nat} {zs : List (HeldD × Nat)} {v : Value} {gs : List Nat} (hN : ∀ b, M b → (∃ q ∈ zs, col b = some q.2) → (∃ o u, I b o = some u) → N b) (h : VRep M I w (.own false 22 (zs.map (cellG col))) v gs) :
    VRep N I w (.own false 22 ((zs.map Prod.fst).map HeldD.dull)) v gs ∧ ∀ g ∈ gs, ∀ o, I g o = none := by
  rcases h with ⟨rfl, h0, rfl⟩ | ⟨g, cap, rfl, rfl, hlt, hr⟩
  · have h1 : zs = [] := List.map_eq_nil_iff.1 h0
    subst h1
    exact ⟨.inl ⟨rfl, rfl, rfl⟩, fun g hg => by cases hg⟩
  · have hle := hr.le
    refine ⟨.inr ⟨g, cap, by simp, rfl, hlt, ⟨by simpa using hle, hr.capm, hr.cells, fun k e he => ?_, (fun e => by cases e), fun o _ => hr.immn o (fun e => by cases e), hr.frz⟩⟩, fun g' hg' o => ?_⟩
    · rw [List.getElem?_map, List.getElem?_map] at he
      cases e1 : zs[k]? with
      | none => rw [e1] at he; cases he
      | some q =>
        rw [e1] at he
        cases he
        obtain ⟨u, u1, u2, u3⟩ := hr.elems k (cellG col q) (by rw [List.getElem?_map, e1]; rfl)
        exact ⟨u, cell_turn q.1 (fun b hb hc hk => hN b hb ⟨q, List.mem_of_getElem? e1, hc⟩ hk) u1, u2, u3⟩
    · rw [List.mem_singleton.1 hg']
      exact hr.immn o (fun e => by cases e)
theorem hdull_marked (h : HeldD) : Marked h.dull := .agg _ fun c hc => by
  simp only [List.mem_cons, List.not_mem_nil, or_false] at hc
  rcases hc with rfl | rfl | rfl | rfl | rfl | rfl | rfl | rfl | rfl | rfl | rfl | rfl | rfl | rfl | rfl | rfl | rfl | rfl | rfl | rfl | rfl | rfl <;> first | exact .int _ _ | exact ints_marked _ _ (fun a => .int _ _) | exact ints_marked _ _ (fun a => .str _)
theorem hdulls_marked (l : List HeldD) : Marked (.sl true 22 (l.map HeldD.dull)) := .sl _ _ fun c hc => by
  obtain ⟨t, _, rfl⟩ := List.mem_map.1 hc
  exact hdull_marked t
theorem c2_Final (l : List HeldD) (b : Int) (hl : l.length * 208 ≤ reachBytes) (hok : ∀ a ∈ l, a.ok) : Contract2 Try.prog 63 [limbo l, .int .i64 b] (.sl true 22 ((if finalOk l b = true then stayOf l b else []).map HeldD.dull)) (.sl true 22 ((if finalOk l b = true then goneOf l b else []).map HeldD.dull)) (.int .i64 (if finalOk l b = true then 0 else 1)) := by
  refine ⟨hdulls_marked _, hdulls_marked _, ⟨_, _, Try.func63, by kernel_rfl, rfl⟩, fun I w vs hI hreps => ?_⟩
  cases hf : finalOk l b with
  | false =>
    rw [if_neg (by decide), if_neg (by decide), if_neg (by decide)]
    refine ((c_Final_no l b hl hok hf).calls I w vs [] hI hreps .nil).mono ?_
    rintro e w' ⟨v, I', gs', rfl, q1, q2, q3, q4, q5, q6, q7⟩
    obtain ⟨us, rfl, hr⟩ := q5
    match us, hr with
    | [v1, v2, v3], ⟨g1, _, _, r1, g2, _, _, r2, g3, _, _, r3, _⟩ =>
      have one : ∀ {v : Value} {g : List Nat} (h : VRep (fun b => w.heap.size ≤ b ∨ b ∈ ([] : List Nat)) I' w' (.own false 22 []) v g), AR (fun _ => False) I' (.sl true 22 (([] : List HeldD).map HeldD.dull)) v := fun h => by
        rcases h with ⟨rfl, _, _⟩ | ⟨g, cap, rfl, _, _, _⟩
        · exact .slnil _ _ _ _
        · exact .slnil _ _ _ _
      exact ⟨v1, v2, v3, I', fun _ => False, fun _ => False, rfl, q1, q2, ⟨q3.os, q3.tape, q3.output, q3.size, fun k hk _ => q3.block k hk (by simp), q3.new⟩, fun b o u hu => (q4 b o u hu).imp id (fun h => h.elim id fun e => by cases e), fun _ h => h.elim, fun _ h => h.elim, fun _ h _ => h, one r1, one r2, r3.1.mono (fun _ _ => trivial) (Imm.leRefl _)⟩
  | true =>
    rw [if_pos rfl, if_pos rfl, if_pos rfl]
    refine (run_Final l b hl hok hf hI hreps .nil).mono ?_
    rintro e w' ⟨col, v, I', gs', own', st, rfl, q1, q2, q3, q4, q5, q6, q7, _, _, _⟩
    obtain ⟨us, rfl, hr⟩ := q5
    match us, hr with
    | [v1, v2, v3], ⟨g1, _, e1, r1, g2, _, e2, r2, g3, _, e3, r3, e4⟩ =>
      subst e4
      subst e3
      subst e2
      subst e1
      obtain ⟨N1, hN1⟩ : ∃ N1 : Nat → Prop, ∀ x, N1 x ↔ w.heap.size ≤ x ∧ (x ∈ g1 ∨ (∃ q ∈ pickZ l.zipIdx fun h => decide (b < h.n), col x = some q.2) ∧ ∃ o u, I' x o = some u) := ⟨_, fun _ => Iff.rfl⟩
      obtain ⟨N2, hN2⟩ : ∃ N2 : Nat → Prop, ∀ x, N2 x ↔ w.heap.size ≤ x ∧ (x ∈ g2 ∨ (∃ q ∈ pickZ l.zipIdx fun h => decide (h.n ≤ b), col x = some q.2) ∧ ∃ o u, I' x o = some u) := ⟨_, fun _ => Iff.rfl⟩
      have hM : ∀ x, (False ∨ w.heap.size ≤ x ∨ x ∈ ([] : List Nat)) → w.heap.size ≤ x := fun x hx => hx.elim False.elim fun h => h.elim id fun e => by cases e
      obtain ⟨t1, n1⟩ := row_turn (N := N1) (fun x hx hc hk => (hN1 x).2 ⟨hM x hx, .inr ⟨hc, hk⟩⟩) r1
      obtain ⟨t2, n2⟩ := row_turn (N := N2) (fun x hx hc hk => (hN2 x).2 ⟨hM x hx, .inr ⟨hc, hk⟩⟩) r2
      rw [pick_fst] at t1 t2
      have hg : ∀ x, x ∈ g1 ∨ x ∈ g2 → w.heap.size ≤ x := fun x hx => by
        refine ((q7 x ?_).1).elim id fun e => by cases e
        rcases hx with h | h
        · exact List.mem_append_left _ h
        · exact List.mem_append_right _ (List.mem_append_left _ h)
      have hdis : ∀ x, x ∈ g1 → x ∈ g2 → False := fun x h1 h2 => (List.nodup_append.1 q6).2.2 x h1 x (List.mem_append_left _ h2) rfl
      obtain ⟨J1, h1, a1, a2, a3, a4, _⟩ := fin_ok (M := N1) q2 (fun x hx => (hN1 x).2 ⟨hg x (.inl hx), .inl hx⟩) t1 (.froz (.refl _))
      have t2' : VRep N2 J1 w' (.own false 22 ((l.filter fun h => decide (h.n ≤ b)).map HeldD.dull)) v2 g2 := t2.keep (fun _ h => h) a1 fun x hx o => a3 x (fun h => hdis x h hx) o
      obtain ⟨J2, h2, b1, b2, b3, b4, _⟩ := fin_ok (M := N2) a2 (fun x hx => (hN2 x).2 ⟨hg x (.inr hx), .inl hx⟩) t2' (.froz (.refl _))
      refine ⟨v1, v2, v3, J2, N1, N2, rfl, q1.trans (a1.trans b1), b2, ⟨q3.os, q3.tape, q3.output, q3.size, fun k hk _ => q3.block k hk (by simp), q3.new⟩, fun x o u hu => ?_, fun x hx => ((hN1 x).1 hx).1, fun x hx => ((hN2 x).1 hx).1, fun x h1 h2 => ?_, a4.1.mono (fun _ h => h) b1, b4.1, r3.1.mono (fun _ _ => trivial) (a1.trans b1)⟩
      · by_cases m2 : x ∈ g2
        · exact .inr (hg x (.inr m2))
        · by_cases m1 : x ∈ g1
          · exact .inr (hg x (.inl m1))
          · rw [b3 x m2 o, a3 x m1 o] at hu
            exact (q4 x o u hu).imp id (fun h => h.elim id fun e => by cases e)
      · obtain ⟨_, k1⟩ := (hN1 x).1 h1
        obtain ⟨_, k2⟩ := (hN2 x).1 h2
        rcases k1 with k1 | ⟨⟨p1, hp1, c1⟩, o1, u1, i1⟩ <;> rcases k2 with k2 | ⟨⟨p2, hp2, c2⟩, o2, u2, i2⟩
        · exact hdis x k1 k2
        · rw [n1 x k1 o2] at i2; cases i2
        · rw [n2 x k2 o1] at i1; cases i1
        · rw [c1] at c2
          have hk : p1.2 = p2.2 := Option.some.inj c2
          obtain ⟨z1, y1⟩ := List.mem_filter.1 hp1
          obtain ⟨z2, y2⟩ := List.mem_filter.1 hp2
          have w1 := List.mem_zipIdx_iff_getElem?.1 z1
          have w2 := List.mem_zipIdx_iff_getElem?.1 z2
          rw [hk, w2] at w1
          have e := Option.some.inj w1
          have y1 := of_decide_eq_true y1
          have y2 := of_decide_eq_true y2
          rw [e] at y2
          omega
end Go.Proofs.Ytpepfhbfooeoeaa.VA
end
section
namespace Go.Proofs.Ytpepfhbfooeoeaa.VA
set_option maxRecDepth 10000
set_option maxHeartbeats 16000000

theorem zeroHA_dullT : Dull zeroHA zeroH.dull := by
  refine dulls_agg ?_
  repeat' (first | exact Dulls.nil | exact Dull.refl _ | exact Dull.nil _ _ | refine Dulls.cons ?_ ?_)
/-- What is pulled of any: what stays, the one, the error. -/
def pullAll (l : List HeldD) (id : Int) : List HeldD × HeldD × Int := if limboOk l = true then pullOf l id else ([], zeroH, 1)
theorem pull_fins (e : Int) : Fins [.own false 22 [], zeroHA, .int .i64 e] [.sl true 22 [], zeroH.dull, .int .i64 e] := .cons (.froz (.refl _)) (.cons (.dull zeroHA_dullT) (.cons (.dull (.refl _)) .nil))
theorem c_limbo_PullT (l : List HeldD) (id : Int) (hl : l.length * 208 ≤ reachBytes) (hok : ∀ a ∈ l, a.ok) : Contract Try.prog 58 [limbo l, .int .u64 id] (.tup [.sl true 22 ((pullAll l id).1.map HeldD.dull), (pullAll l id).2.1.dull, .int .i64 (pullAll l id).2.2]) := by
  have hK := c_limbo_Check l hl hok
  cases hyes : limboOk l with
  | false =>
    have hq : pullAll l id = ([], zeroH, 1) := by unfold pullAll; rw [hyes]; rfl
    rw [hyes, if_neg (by decide)] at hK
    rw [hq]
    refine contract_of (C := cf 39 [0, 1, 4, 5, 6, 7, 8, 9, 10, 11, 15, 25] ( ownD)) (cf_ok _ _ _) (fn := Try.f58) Try.func58 (by kernel_rfl) rfl (by kernel_rfl) (by simp [cf]) (plain2 (limbo_plain l) (.int _ _)) (by decide) (cellsOk (by kernel_rfl)) ?_
    simp only [go_sem, seval, limbo, ownD_Delete, ownD_Check, ownD_place, ownD_Helds]
    refine ex_call (by exact hK) ?_
    simp only [go_sem, seval, ownD_Delete, ownD_Check, ownD_place, ownD_Helds]
    refine finTupD (vs' := [.own false 22 [], zeroHA, .int .i64 (1 : Int)]) ?_ (pull_fins _)
    show resOf _ _ [.tmp 4, .cell 5 90, .tmp 6] = _
    simp only [go_sem, seval, zeroHA]
  | true =>
    have hqa : pullAll l id = pullOf l id := by unfold pullAll; rw [hyes]; rfl
    rw [hqa]
    obtain ⟨h48, hs, hv⟩ := limbo_sorted hyes
    have hH := c_pool_HeldsT l hl hok
    have hP := c_place l hok hv (by omega) id _ (place_pos l id hs)
    have hle := (place_pos l id hs).1
    generalize hp : posOf l id = p at hP hle
    have hq : pullOf l id = match l[p]? with
      | some x => if idTx x.t = id then (l.eraseIdx p, x, 0) else ([], zeroH, 3)
      | none => ([], zeroH, 3) := by rw [← hp]; rfl
    rw [hyes, if_pos rfl] at hK
    refine contract_of (C := cf 39 [0, 1, 4, 5, 6, 7, 8, 9, 10, 11, 15, 25] ( ownD)) (cf_ok _ _ _) (fn := Try.f58) Try.func58 (by kernel_rfl) rfl (by kernel_rfl) (by simp [cf]) (plain2 (limbo_plain l) (.int _ _)) (by decide) (cellsOk (by kernel_rfl)) ?_
    simp only [go_sem, seval, limbo, ownD_Delete, ownD_Check, ownD_place, ownD_Helds]
    refine ex_call (by exact hK) ?_
    simp only [go_sem, seval, ownD_Delete, ownD_Check, ownD_place, ownD_Helds]
    refine ex_call (by exact hP) ?_
    cases ht : thereAt l id p with
    | false =>
      have hq2 : pullOf l id = ([], zeroH, 3) := by
        rw [hq]
        unfold thereAt at ht
        cases e : l[p]? with
        | none => rfl
        | some x => rw [e] at ht; show (if idTx x.t = id then (l.eraseIdx p, x, (0 : Int)) else ([], zeroH, 3)) = _; rw [if_neg (by simpa using ht)]
      rw [hq2]
      simp only [go_sem, seval, ht, ownD_Delete, ownD_Check, ownD_place, ownD_Helds]
      refine finTupD (vs' := [.own false 22 [], zeroHA, .int .i64 (3 : Int)]) ?_ (pull_fins _)
      show resOf _ _ [.tmp 4, .cell 5 90, .tmp 6] = _
      simp only [go_sem, seval, zeroHA]
    | true =>
      obtain ⟨x, ex, hx⟩ : ∃ x, l[p]? = some x ∧ idTx x.t = id := by
        unfold thereAt at ht
        cases e : l[p]? with
        | none => rw [e] at ht; cases ht
        | some x => rw [e] at ht; exact ⟨x, rfl, by simpa using ht⟩
      have hlt := (List.getElem?_eq_some_iff.1 ex).1
      have hq2 : pullOf l id = (l.eraseIdx p, x, 0) := by rw [hq, ex]; show (if idTx x.t = id then _ else _) = _; rw [if_pos hx]
      have hD := t_Delete (l.map HeldD.dull) p (by simpa using hlt)
      rw [hq2]
      simp only [go_sem, seval, ht, ownD_Delete, ownD_Check, ownD_place, ownD_Helds]
      refine ex_call (by exact hH) ?_
      simp only [go_sem, seval, List.length_map, List.getElem?_map, ex, Option.map_some, Int.toNat_natCast, HeldD.dull, ownD_Delete, ownD_Check, ownD_place, ownD_Helds]
      repeat with_reducible refine And.intro (by first | omega | (simp only [List.length_cons, List.length_append, List.length_nil, List.length_map, List.length_take, List.length_drop, List.length_set]; omega)) ?_
      have w1 : IntKind.i64.wrap ((p : Int) + 1) = ((p + 1 : Nat) : Int) := by rw [IntKind.wrap_i64]; omega
      refine ex_draw [7] [] (.quiet 0 (.quiet 1 (.quiet 2 (.quiet 3 (.quiet 5 (.one 4 (.quiet 6 (.unlock (.one 7 (.quiet 8 (.fin))))))))))) (by kernel_rfl) ?_
      simp only [go_sem, seval, ex_ord_two, ex_ord_three, w1, ownD_Delete, ownD_Check, ownD_place, ownD_Helds]
      have he : (l.eraseIdx p).map HeldD.dull = (l.map HeldD.dull).take p ++ (l.map HeldD.dull).drop (p + 1) := by rw [List.eraseIdx_eq_take_drop_succ, List.map_append, List.map_take, List.map_drop]
      refine ex_through (by exact hD) ?_
      simp only [go_sem, seval, ownD_Delete, ownD_Check, ownD_place, ownD_Helds]
      rw [he]
      refine finTupD (vs' := [.own false 22 ((l.map HeldD.dull).take p ++ (l.map HeldD.dull).drop (p + 1)), x.dull, .int .i64 (0 : Int)]) ?_ (.cons (.froz (.refl _)) (.cons (.dull (.refl _)) (.cons (.dull (.refl _)) .nil)))
      show resOf _ _ [.tmp 4, .cell 5 90, .tmp 6] = _
      simp only [go_sem, seval, HeldD.dull]
end Go.Proofs.Ytpepfhbfooeoeaa.VA
end
section
namespace Go.Proofs.Ytpepfhbfooeoeaa.VA
set_option maxRecDepth 10000
set_option maxHeartbeats 16000000

/-- Where an ID stands, or -1. -/
def heldIx (l : List HeldD) (id : Int) : Int := if thereAt l id (posOf l id) = true then posOf l id else -1
theorem there_iff {l : List HeldD} {id : Int} (hs : sortedH l) : thereAt l id (posOf l id) = true ↔ ∃ x ∈ l, (idTx x.t : Int) = id := by
  constructor
  · intro h
    unfold thereAt at h
    cases e : l[posOf l id]? with
    | none => rw [e] at h; cases h
    | some x => rw [e] at h; exact ⟨x, List.mem_of_getElem? e, by simpa using h⟩
  · rintro ⟨x, hx, rfl⟩
    obtain ⟨i, ei⟩ := List.getElem?_of_mem hx
    have := place_unique (place_pos l (idTx x.t) hs) (place_at hs ei)
    unfold thereAt
    rw [this, ei]
    simp
theorem c_ref16_Held (l : List HeldD) (id : Int) (hl : l.length * 208 ≤ reachBytes) (hok : ∀ a ∈ l, a.ok) (hs : sortedH l) (hva : ∀ a ∈ l, validTx a.t = true) : Contract Try.prog 62 [limbo l, .int .u64 id] (.int .i64 (heldIx l id)) := by
  unfold reachBytes at hl
  refine contract_of (C := cf 21 [0, 1, 4, 5, 9, 19] (fun _ => [])) (cf_ok _ _ _) (fn := Try.f62) Try.func62 (by kernel_rfl) rfl (by kernel_rfl) (by simp [cf]) (plain2 (limbo_plain l) (.int _ _)) (by decide) (noCell (by kernel_rfl)) ?_
  simp only [go_sem, seval, limbo, List.length_map]
  refine ex_iter [0, 1, 5] (fun i : Nat => ⟨[(0, .sl false 22 (l.map HeldD.av)), (1, .int .u64 id), (5, .int .i64 i)], [], []⟩) (fun i => i ≤ l.length ∧ ∀ k x, k < i → l[k]? = some x → (idTx x.t : Int) ≠ id) (fun i => l.length - i) 0 ?_ ?_ ?_
  · simp only [ASt.keep, consIf, keepL, keepV, AV.isBot, List.contains_cons, List.contains_nil, Nat.reduceBEq, Bool.or_false, Bool.false_or, Bool.or_true, Bool.true_or, beq_self_eq_true, Bool.false_eq_true, ↓reduceIte, if_false, if_true]
    try rfl
  · exact ⟨Nat.zero_le _, fun k x h => absurd h (Nat.not_lt_zero _)⟩
  · rintro n i ⟨hi, hno⟩ next
    simp only [go_sem, seval, List.length_map]
    refine ex_br (fun h => ?_) (fun h => ?_)
    · have hlt : i < l.length := by simpa using h
      obtain ⟨x, ex⟩ : ∃ x, l[i]? = some x := ⟨_, List.getElem?_eq_getElem hlt⟩
      have hx := List.mem_of_getElem? ex
      have hID : Contract Try.prog 57 [txE x.t] (.int .u64 (idTx x.t)) := c_ref7_ID x.t (hok x hx).t (hva x hx)
      simp only [go_sem, seval, List.length_map, List.getElem?_map, ex, Option.map_some, Int.toNat_natCast, HeldD.av]
      repeat with_reducible refine And.intro (by first | omega | (simp only [List.length_cons, List.length_append, List.length_nil, List.length_map, List.length_take, List.length_drop, List.length_set]; omega)) ?_
      try simp only [go_sem, seval, List.length_map, List.getElem?_map, ex, Option.map_some, Int.toNat_natCast, HeldD.av]
      refine ex_call (by exact hID) ?_
      cases he : ((idTx x.t : Int) == id)
      · simp only [go_sem, seval, he]
        refine next (i + 1) _ ⟨by omega, fun k y hk ey => ?_⟩ (by omega) ?_
        · rcases Nat.lt_or_ge k i with h1 | h1
          · exact hno k y h1 ey
          · have : k = i := by omega
            subst this
            rw [ex] at ey
            cases ey
            simpa using he
        · rw [← wi64_nat i (by omega)]
          simp only [ASt.keep, consIf, keepL, keepV, AV.isBot, List.contains_cons, List.contains_nil, Nat.reduceBEq, Bool.or_false, Bool.false_or, Bool.or_true, Bool.true_or, beq_self_eq_true, Bool.false_eq_true, ↓reduceIte, if_false, if_true]
          try rfl
      · have e : (idTx x.t : Int) = id := by simpa using he
        have hp : heldIx l id = i := by
          have hu := place_unique (place_pos l id hs) (e ▸ place_at hs ex)
          unfold heldIx
          rw [hu, if_pos (by unfold thereAt; rw [ex]; simpa using e)]
        rw [hp]
        simp only [go_sem, seval, he]
        refine finOne ?_ (fun _ e => by cases e)
        show resOf _ _ [.tmp 4] = _
        simp only [go_sem, seval]
    · have hge : i = l.length := by simp at h; omega
      have hp : heldIx l id = -1 := by
        unfold heldIx
        rw [if_neg]
        intro hc
        obtain ⟨x, hx, e⟩ := (there_iff hs).1 hc
        obtain ⟨k, ek⟩ := List.getElem?_of_mem hx
        exact hno k x (by have := (List.getElem?_eq_some_iff.1 ek).1; omega) ek e
      rw [hp]
      simp only [go_sem, seval]
      refine finOne ?_ (fun _ e => by cases e)
      show resOf _ _ [.tmp 4] = _
      simp only [go_sem, seval]
theorem c_ref20_Push (l : List HeldD) (t : TxD) (n : Int) (hl : l.length * 208 ≤ reachBytes) (hok : ∀ a ∈ l, a.ok) (ht : t.ok) (hy : limboOk l = true) (hv : validTx t = true) (hn : 0 ≤ n ∧ n ≤ 1099511627776) :
    Contract Try.prog 52 [limbo l, txE t, .int .i64 n] (.tup [.sl true 22 ((pushOut l t n).map HeldD.av), .int .i64 (pushErr l t n)]) := by
  obtain ⟨res, hres⟩ : ∃ res, res = (.tup [.sl true 22 ((pushOut l t n).map HeldD.av), .int .i64 (pushErr l t n)] : AV) := ⟨_, rfl⟩
  rw [← hres]
  have err : ∀ e : Int, pushErr l t n = e → e ≠ 0 → res = .tup [.sl true 22 [], .int .i64 e] := fun e he hne => by
    rw [hres]; unfold pushOut; rw [he, if_neg hne]; rfl
  have good : pushErr l t n = 0 → res = .tup [.sl true 22 (((l.take (posOf l (idTx t))).map HeldD.av ++ [HeldD.av ⟨t, n⟩]) ++ (l.drop (posOf l (idTx t))).map HeldD.av), .int .i64 0] := fun he => by
    rw [hres]; unfold pushOut insAt; rw [he, if_pos rfl, List.map_append, List.map_cons, List.append_assoc]; rfl
  clear hres
  obtain ⟨h48, hs, hva⟩ := limbo_sorted hy
  have hpp := place_pos l (idTx t) hs
  have e2 : pushErr l t n = (if thereAt l (idTx t) (posOf l (idTx t)) = true then 4 else if 48 ≤ l.length then 5 else 0) := if_pos ⟨hv, hy, hn.1, hn.2⟩
  have hID : Contract Try.prog 57 [txE t] (.int .u64 (idTx t)) := c_ref7_ID t ht hv
  have hHe := c_ref16_Held l (idTx t) hl hok hs hva
  have hC : Contract Try.prog 24 [txE t] (txE t) := r_Copy t ht
  generalize hp : posOf l (idTx t) = p at *
  obtain ⟨hle, hpl⟩ := hpp
  have hC1 := c_CopyLimbo (l.take p) (by rw [List.length_take]; unfold reachBytes at *; omega) (fun a ha => hok a (List.mem_of_mem_take ha))
  have hC2 := c_CopyLimbo (l.drop p) (by rw [List.length_drop]; unfold reachBytes at *; omega) (fun a ha => hok a (List.mem_of_mem_drop ha))
  have t1 : (l.map HeldD.av).take p = (l.take p).map HeldD.av := List.map_take.symm
  have t2 : (l.map HeldD.av).drop p = (l.drop p).map HeldD.av := List.map_drop.symm
  unfold heldIx at hHe
  rw [hp] at hHe
  refine contract_of (C := cf 52 [0, 2, 4, 6, 7, 8, 9, 10, 16, 19, 33] (fun _ => [])) (cf_ok _ _ _) (fn := Try.f52) Try.func52 (by kernel_rfl) rfl (by kernel_rfl) (by simp [cf]) (plain3 (limbo_plain l) t.plain (.int _ _)) (by decide) (noCell (by kernel_rfl)) ?_
  simp only [go_sem, seval, limbo, TxD.av, TxD.cells, ints, strs]
  refine ex_call (by exact hID) ?_
  simp only [go_sem, seval]
  refine ex_call (by exact hHe) ?_
  cases hth : thereAt l (idTx t) p
  case' true =>
    have d0 : decide ((p : Int) ≥ 0) = true := decide_eq_true (by omega)
    rw [err 4 (by rw [e2, if_pos hth]) (by decide)]
    simp only [go_sem, seval, d0]
    refine finPushT (sh := false) ?_
    show resOf _ _ [.tmp 6, .tmp 7] = _
    simp only [go_sem, seval]
  rw [hth, if_neg (by decide)] at e2
  simp only [go_sem, seval]
  cases d3 : decide ((l.length : Int) ≥ 48)
  case' true =>
    rw [err 5 (by rw [e2, if_pos (by have := of_decide_eq_true d3; omega)]) (by decide)]
    simp only [go_sem, seval, d3, List.length_map]
    refine finPushT (sh := false) ?_
    show resOf _ _ [.tmp 6, .tmp 7] = _
    simp only [go_sem, seval]
  rw [good (by rw [e2, if_neg (by have := of_decide_eq_false d3; omega)])]
  simp only [go_sem, seval, d3, List.length_map]
  refine ex_iter [0, 2, 4, 8, 9] (fun i : Nat => ⟨[(0, .sl false 22 (l.map HeldD.av)), (2, .int .i64 n), (4, .var 4 0), (8, .int .u64 (idTx t)), (9, .int .i64 i)], [(4, t.cells)], []⟩) (fun i => i ≤ p) (fun i => p - i) 0 ?_ ?_ ?_
  · simp only [ASt.keep, consIf, keepL, keepV, AV.isBot, List.contains_cons, List.contains_nil, Nat.reduceBEq, Bool.or_false, Bool.false_or, Bool.or_true, Bool.true_or, beq_self_eq_true, Bool.false_eq_true, ↓reduceIte, if_false, if_true]
    try rfl
  · exact Nat.zero_le _
  · intro r i hi next
    rcases Nat.lt_or_ge i p with hip | hip
    · obtain ⟨x, ex⟩ : ∃ x, l[i]? = some x := ⟨_, List.getElem?_eq_getElem (by omega)⟩
      have hx := List.mem_of_getElem? ex
      have hIDx : Contract Try.prog 57 [txE x.t] (.int .u64 (idTx x.t)) := c_ref7_ID x.t (hok x hx).t (hva x hx)
      have d4 : decide ((i : Int) < (l.length : Int)) = true := decide_eq_true (by omega)
      have d5 : decide ((idTx x.t : Int) < idTx t) = true := decide_eq_true ((hpl i x ex).2 hip)
      simp only [go_sem, seval, d4, List.length_map, List.getElem?_map, ex, Option.map_some, Int.toNat_natCast, HeldD.av]
      repeat with_reducible refine And.intro (by first | omega | (simp only [List.length_cons, List.length_append, List.length_nil, List.length_map, List.length_take, List.length_drop, List.length_set]; omega)) ?_
      try simp only [go_sem, seval, d4, List.length_map, List.getElem?_map, ex, Option.map_some, Int.toNat_natCast, HeldD.av]
      refine ex_call (by exact hIDx) ?_
      simp only [go_sem, seval, d5]
      refine next (i + 1) _ (by omega) (by omega) ?_
      rw [← wi64_nat i (by unfold reachBytes at hl; omega)]
      simp only [ASt.keep, consIf, keepL, keepV, AV.isBot, List.contains_cons, List.contains_nil, Nat.reduceBEq, Bool.or_false, Bool.false_or, Bool.or_true, Bool.true_or, beq_self_eq_true, Bool.false_eq_true, ↓reduceIte, if_false, if_true]
      try rfl
    · have hie : i = p := by omega
      subst hie
      rcases Nat.lt_or_ge i l.length with hil | hil
      · obtain ⟨x, ex⟩ : ∃ x, l[i]? = some x := ⟨_, List.getElem?_eq_getElem hil⟩
        have hx := List.mem_of_getElem? ex
        have hIDx : Contract Try.prog 57 [txE x.t] (.int .u64 (idTx x.t)) := c_ref7_ID x.t (hok x hx).t (hva x hx)
        have d4 : decide ((i : Int) < (l.length : Int)) = true := decide_eq_true (by omega)
        have d5 : decide ((idTx x.t : Int) < idTx t) = false := decide_eq_false (fun h => by have := (hpl i x ex).1 h; omega)
        simp only [go_sem, seval, d4, List.length_map, List.getElem?_map, ex, Option.map_some, Int.toNat_natCast, HeldD.av]
        repeat with_reducible refine And.intro (by first | omega | (simp only [List.length_cons, List.length_append, List.length_nil, List.length_map, List.length_take, List.length_drop, List.length_set]; omega)) ?_
        try simp only [go_sem, seval, d4, List.length_map, List.getElem?_map, ex, Option.map_some, Int.toNat_natCast, HeldD.av]
        refine ex_call (by exact hIDx) ?_
        simp only [go_sem, seval, d5]
        refine ex_draw [] [] (.quiet 0 (.quiet 1 (.quiet 2 (.quiet 4 (.quiet 6 (.one 3 (.one 5 (.one 7 (.one 8 (.one 9 (.quiet 10 (.fin)))))))))))) (by kernel_rfl) ?_
        simp only [go_sem, seval, ex_ord_two, ex_ord_three, List.length_map, Int.toNat_natCast, Nat.sub_zero, t1, t2, TxD.cells, ints, strs]
        refine ⟨by omega, ?_⟩
        refine ex_call (by exact hC1) ?_
        simp only [go_sem, seval, TxD.cells, ints, strs]
        refine ex_call (by exact hC) ?_
        simp only [go_sem, seval, List.length_map]
        have e3 : ((l.drop i).map HeldD.av).take (l.length - i) = (l.drop i).map HeldD.av := List.take_of_length_le (by rw [List.length_map, List.length_drop]; omega)
        refine ⟨by rw [List.length_take]; omega, ⟨⟨by omega, by omega⟩, by omega, by omega⟩, ?_⟩
        simp only [go_sem, seval, Int.toNat_natCast, t2, e3]
        refine ex_call (by exact hC2) ?_
        simp only [go_sem, seval, List.length_map, List.length_append]
        refine ⟨by rw [List.length_take, List.length_drop]; omega, ?_⟩
        refine finPushT (sh := false) ?_
        show resOf _ _ [.tmp 6, .tmp 7] = _
        simp only [go_sem, seval]
        try rfl
      · have d4 : decide ((i : Int) < (l.length : Int)) = false := decide_eq_false (by omega)
        simp only [go_sem, seval, d4, List.length_map]
        refine ex_draw [] [] (.quiet 0 (.quiet 1 (.quiet 2 (.quiet 4 (.quiet 6 (.one 3 (.one 5 (.one 7 (.one 8 (.one 9 (.quiet 10 (.fin)))))))))))) (by kernel_rfl) ?_
        simp only [go_sem, seval, ex_ord_two, ex_ord_three, List.length_map, Int.toNat_natCast, Nat.sub_zero, t1, t2, TxD.cells, ints, strs]
        refine ⟨by omega, ?_⟩
        refine ex_call (by exact hC1) ?_
        simp only [go_sem, seval, TxD.cells, ints, strs]
        refine ex_call (by exact hC) ?_
        simp only [go_sem, seval, List.length_map]
        have e3 : ((l.drop i).map HeldD.av).take (l.length - i) = (l.drop i).map HeldD.av := List.take_of_length_le (by rw [List.length_map, List.length_drop]; omega)
        refine ⟨by rw [List.length_take]; omega, ⟨⟨by omega, by omega⟩, by omega, by omega⟩, ?_⟩
        simp only [go_sem, seval, Int.toNat_natCast, t2, e3]
        refine ex_call (by exact hC2) ?_
        simp only [go_sem, seval, List.length_map, List.length_append]
        refine ⟨by rw [List.length_take, List.length_drop]; omega, ?_⟩
        refine finPushT (sh := false) ?_
        show resOf _ _ [.tmp 6, .tmp 7] = _
        simp only [go_sem, seval]
        try rfl
theorem insAt_ok {l : List HeldD} {p : Nat} {x : HeldD} (h : ∀ a ∈ l, a.ok) (hx : x.ok) : ∀ a ∈ insAt l p x, a.ok := fun a ha => by
  unfold insAt at ha
  rcases List.mem_append.1 ha with h1 | h1
  · exact h a (List.mem_of_mem_take h1)
  · rcases List.mem_cons.1 h1 with h2 | h2
    · rw [h2]; exact hx
    · exact h a (List.mem_of_mem_drop h2)
theorem pushOut_ok {l : List HeldD} {t : TxD} {n : Int} (h : ∀ a ∈ l, a.ok) (ht : t.ok) (hn : -9223372036854775808 ≤ n ∧ n ≤ 9223372036854775807) : ∀ a ∈ pushOut l t n, a.ok := by
  unfold pushOut
  split
  · exact insAt_ok h ⟨ht, hn⟩
  · intro a ha; cases ha
theorem pushOut_len (l : List HeldD) (t : TxD) (n : Int) : (pushOut l t n).length ≤ 48 := by
  unfold pushOut
  split
  · rename_i h
    unfold pushErr at h
    split at h
    · split at h
      · cases h
      · split at h
        · cases h
        · unfold insAt
          simp only [List.length_append, List.length_cons, List.length_take, List.length_drop]
          omega
    · cases h
  · exact Nat.zero_le _
theorem pushErr_one {l : List HeldD} {t : TxD} {n : Int} (h : ¬ (limboOk l = true ∧ validTx t = true ∧ 0 ≤ n ∧ n ≤ 1099511627776)) : pushErr l t n = 1 ∧ pushOut l t n = [] := by
  have e : pushErr l t n = 1 := if_neg fun k => h ⟨k.2.1, k.1, k.2.2⟩
  exact ⟨e, by unfold pushOut; rw [e]; rfl⟩
end Go.Proofs.Ytpepfhbfooeoeaa.VA
end
section
namespace Go.Proofs.Ytpepfhbfooeoeaa.VA
set_option maxRecDepth 10000
set_option maxHeartbeats 16000000

def spcE (f : FuncId) : Bool := Nat.beq f 58 || (Nat.beq f 59 || (Nat.beq f 63 || (Nat.beq f 54 || (Nat.beq f 55 || (Nat.beq f 49)))))
def splE (f : FuncId) : Bool := Nat.beq f 55
theorem spEs : spcE 48 = false ∧ spcE 50 = false ∧ spcE 51 = false ∧ spcE 61 = false ∧ spcE 53 = false ∧ spcE 23 = false ∧ spcE 33 = false ∧ spcE 57 = false ∧ spcE 58 = true ∧ spcE 62 = false ∧ spcE 60 = false ∧ spcE 59 = true ∧ spcE 63 = true ∧ spcE 46 = false ∧ spcE 64 = false ∧ spcE 54 = true ∧ spcE 55 = true ∧ spcE 52 = false ∧ spcE 24 = false ∧ spcE 49 = true ∧ spcE 56 = false := ⟨rfl, rfl, rfl, rfl, rfl, rfl, rfl, rfl, rfl, rfl, rfl, rfl, rfl, rfl, rfl, rfl, rfl, rfl, rfl, rfl, rfl⟩
theorem held_by (x : HeldD) (s : Stash) : By s (x.dull.stowA s) (heldC x.t x.n) := by
  refine .agg _ _ rfl ?_
  iterate 19 refine by_cons (.dull (.refl _) rfl) ?_
  exact by_cons (.st (dsl _ _ _)) (by_cons (.st (dsl _ _ _)) (by_cons (.dull (.refl _) rfl) (by_nil s)))
theorem c_LimboExact (s : Script20) (hso : s.ok) : Contract Try.prog 10 [s.av] (.bool true) := by
  have hHv := c_law20_heavy s hso
  have hC0 := c_CopyLimbo s.h hso.hl hso.h
  have hh := hso.hl
  have hll := hso.ll
  unfold reachBytes at hh hll
  have hEZ := c_EqHeld zeroH zeroH zeroH_ok zeroH_ok
  rw [decide_eq_true rfl] at hEZ
  have hE0 := c_EqLimbo [] [] (by decide) (by decide) (by simp) (by simp)
  rw [decide_eq_true rfl] at hE0
  refine contract_of (C := cfs 219 [1, 2, 3, 4, 5, 6, 7, 8, 9, 10, 11, 12, 13, 14, 15, 16, 17, 18, 19, 20, 21, 22, 24, 36, 60, 65, 76, 96, 104, 119, 138, 143, 154, 157, 172, 183, 207, 213, 215] spcE splE) (cfs_ok _ _ _ _) (fn := Try.f10) Try.func10 (by kernel_rfl) rfl (by kernel_rfl) (by simp [cfs]) (hspc := fun _ => rfl) (plain1 (script_plain s)) (by decide) (cellsOk (by kernel_rfl)) ?_
  simp only [go_sem, seval, cfs, Script20.av, spEs]
  refine ex_call (by exact hHv) ?_
  cases hv : heavy20 s with
  | true =>
    simp only [go_sem, seval]
    refine finOne ?_ (fun _ e => by cases e)
    show resOf _ _ [.tmp 2] = _
    simp only [go_sem, seval]
  | false =>
    simp only [go_sem, seval, spEs]
    refine ex_call (by exact hC0) ?_
    simp only [go_sem, seval, List.length_map]
    refine ex_iter [1, 3, 4] (fun g : Nat × List HeldD × Bool => ⟨[(1, .var 1 0), (3, .own g.2.2 22 (g.2.1.map HeldD.av)), (4, .int .i64 g.1)], [(1, [.sl false 22 (s.h.map HeldD.av), .sl false 23 (s.l.map Act20.av)])], []⟩)
      (fun g => g.1 ≤ s.l.length ∧ g.2.1.length * 208 ≤ reachBytes ∧ ∀ a ∈ g.2.1, a.ok) (fun g => s.l.length - g.1) (0, s.h, false) ?_ ?_ ?_
    · simp only [ASt.keep, consIf, keepL, keepV, AV.isBot, List.contains_cons, List.contains_nil, Nat.reduceBEq, Bool.or_false, Bool.false_or, Bool.or_true, Bool.true_or, beq_self_eq_true, Bool.false_eq_true, ↓reduceIte, if_false, if_true]
      try rfl
    · exact ⟨Nat.zero_le _, hso.hl, hso.h⟩
    · rintro n ⟨i, l, sh⟩ ⟨hi, hl, hok⟩ next
      dsimp only at hi hl hok next ⊢
      have hlr := hl
      unfold reachBytes at hlr
      simp only [go_sem, seval, List.length_map]
      refine ex_joinB 36 (decide (i < s.l.length) && decide (i < 12)) ?_ ?_
      · repeat' (first | (refine ex_split (fun h => ?_) (fun h => ?_)) | (with_reducible refine And.intro (by omega) ?_) |
          (simp only [go_sem, seval, List.length_map]))
        all_goals (try simp only [ASt.mk.injEq, List.cons.injEq, Prod.mk.injEq, AV.bool.injEq, true_and, and_true, eq_self])
        all_goals first | (simp_all; done) | (simp_all; omega) | (rw [Bool.eq_iff_iff]; simp only [List.length_map, Bool.or_eq_true, Bool.and_eq_true, Bool.not_eq_true', Bool.not_eq_false', decide_eq_true_eq, decide_eq_false_iff_not, bne_iff_ne, beq_iff_eq, ne_eq, true_iff, iff_true, false_iff, iff_false, Bool.false_eq_true, not_false_eq_true, not_true_eq_false] at *; omega)
      simp only [go_sem, seval]
      refine ex_br (fun h => ?_) (fun h => ?_)
      · have hlt : i < s.l.length := by simp at h; omega
        obtain ⟨a, ea⟩ : ∃ a, s.l[i]? = some a := ⟨_, List.getElem?_eq_getElem hlt⟩
        have hao := hso.l a (List.mem_of_getElem? ea)
        have hCh := c_ref16_Limbo l hl hok
        have hCk := c_limbo_Check l hl hok
        have hCp := c_CopyLimbo l hl hok
        have hEqL := c_EqLimbo l l hl hl hok hok
        rw [decide_eq_true rfl] at hEqL
        have hVt : Contract Try.prog 33 [txE a.t] (.bool (validTx a.t)) := c_ref7_Tx a.t hao.t
        have hN := c_Num a.n 1099511627776
        have hCt : Contract Try.prog 24 [txE a.t] (txE a.t) := r_Copy a.t hao.t
        obtain ⟨d, hd⟩ : ∃ d, d = withinOf a.d 4 := ⟨_, rfl⟩
        have hW := c_Within a.d 4 (by decide) (by decide)
        rw [← hd] at hW
        simp only [go_sem, seval, spEs, List.length_map, List.getElem?_map, ea, Int.toNat_natCast, Act20.av]
        repeat with_reducible refine And.intro (by first | omega | (simp only [List.length_cons, List.length_append, List.length_nil, List.length_map, List.length_take, List.length_drop, List.length_set]; omega)) ?_
        try simp only [go_sem, seval, spEs, List.length_map, List.getElem?_map, ea, Int.toNat_natCast, Act20.av]
        refine ex_call_dull (.cons (dsl _ _ _) .nil) (by exact hCh) ?_
        simp only [go_sem, seval, spEs]
        refine ex_call_dull (.cons (dsl _ _ _) .nil) (by exact hCk) ?_
        simp only [go_sem, seval, spEs]
        refine ex_call (by exact c_law20_num _) ?_
        cases hm : limboOk l with
        | false =>
          have hm0 : (limboOk l = true) = False := by rw [hm]; simp
          simp only [go_sem, seval, spEs, bne_self_eq_false]
          refine ex_call_dull (.cons (dsl _ _ _) .nil) (by exact hCp) ?_
          simp only [go_sem, seval, spEs, List.length_map, List.getElem?_map, ea, Int.toNat_natCast, Act20.av]
          repeat with_reducible refine And.intro (by first | omega | (simp only [List.length_cons, List.length_append, List.length_nil, List.length_map, List.length_take, List.length_drop, List.length_set]; omega)) ?_
          try simp only [go_sem, seval, spEs, List.length_map, List.getElem?_map, ea, Int.toNat_natCast, Act20.av]
          refine ex_call (by exact hW) ?_
          cases k2 : ((d : Int) == 2) with
          | true =>
            simp only [go_sem, seval, spEs, k2, List.length_map, List.getElem?_map, ea, Int.toNat_natCast, Act20.av]
            have hWt := c_Within a.n 1000 (by decide) (by decide)
            try simp only [go_sem, seval, spEs, List.length_map, List.getElem?_map, ea, Int.toNat_natCast, Act20.av]
            repeat with_reducible refine And.intro (by first | omega | (simp only [List.length_cons, List.length_append, List.length_nil, List.length_map, List.length_take, List.length_drop, List.length_set]; omega)) ?_
            try simp only [go_sem, seval, spEs, List.length_map, List.getElem?_map, ea, Int.toNat_natCast, Act20.av]
            refine ex_call (by exact hWt) ?_
            simp only [go_sem, seval, spEs, List.length_map, List.getElem?_map, ea, Int.toNat_natCast, Act20.av]
            refine ex_call (by exact hVt) ?_
            simp only [go_sem, seval, spEs]
            obtain ⟨id0, hid0⟩ : ∃ id0 : Int, id0 = IntKind.u64.wrap ((withinOf a.n 1000 : Nat) : Int) := ⟨_, rfl⟩
            obtain ⟨id1, hid1, hid2⟩ : ∃ id1 : Int, (validTx a.t = true → id1 = idTx a.t) ∧ (validTx a.t = false → id1 = id0) := by
              cases validTx a.t
              · exact ⟨id0, fun h => by (cases h), fun _ => rfl⟩
              · exact ⟨idTx a.t, fun _ => rfl, fun h => by (cases h)⟩
            rw [← hid0]
            refine ex_if 13 (.int .u64 id1) (fun hv => ?_) (fun hv => ?_) ?_
            · have hID : Contract Try.prog 57 [txE a.t] (.int .u64 (idTx a.t)) := c_ref7_ID a.t hao.t hv
              rw [hid1 hv]
              simp only [go_sem, seval, spEs]
              refine ex_call (by exact hID) ?_
              simp only [go_sem, seval, spEs]
              try rfl
            · rw [hid2 hv]
              simp only [go_sem, seval, spEs]
              try rfl
            simp only [go_sem, seval, spEs, List.length_map]
            refine ex_joinB 119 (false) ?_ ?_
            · cases b1 : decide ((l.length : Int) > 0) <;> cases b2 : decide (a.n.tmod 3 > 0)
              all_goals simp only [go_sem, seval, spEs, b1, b2]
              all_goals (try rfl)
            simp only [go_sem, seval, spEs, List.length_map]
            have hPl := c_limbo_PullT l id1 hl hok
            have hqa : pullAll l id1 = ([], zeroH, 1) := by unfold pullAll; rw [hm]; rfl
            rw [hqa] at hPl
            have hSX := spoil_Limbo [] (by simp) (by decide)
            try simp only [go_sem, seval, spEs]
            refine ex_fork (.cons (dsl _ _ _) (.cons (.refl _) .nil)) (by exact hPl) rfl rfl (fun z => ?_)
            simp only [go_sem, seval, spEs, ASt.stow, AV.stowT, AV.stowA, AV.stow, HeldD.dull, List.map_nil]
            refine ex_ask z (.head _) (.cons (held_by zeroH z) (.cons (.dull zeroHA_dull rfl) .nil)) (by exact hEZ) rfl ?_
            try simp only [go_sem, seval, spEs]
            refine ex_call (by exact c_law20_num _) ?_
            simp only [go_sem, seval, spEs, bne_self_eq_false]
            refine ex_plain (.cons (dsl _ _ _) (.cons (dsl _ _ _) .nil)) (by exact hEqL) ?_
            simp only [go_sem, seval, spEs]
            refine ex_spoil z [] [] rfl rfl (.st _) (by exact hSX) ?_
            simp only [go_sem, seval, spEs, ASt.unstow]
            refine ex_plain (.cons (dsl _ _ _) (.cons (dsl _ _ _) .nil)) (by exact hEqL) ?_
            simp only [go_sem, seval, spEs]
            refine next (i + 1, l, true) _ ⟨by dsimp only; omega, hl, hok⟩ (by dsimp only; omega) ?_
            rw [← wi64_nat i (by omega)]
            simp only [ASt.keep, consIf, keepL, keepV, AV.isBot, List.contains_cons, List.contains_nil, Nat.reduceBEq, Bool.or_false, Bool.false_or, Bool.or_true, Bool.true_or, beq_self_eq_true, Bool.false_eq_true, ↓reduceIte, if_false, if_true]
            try rfl
          | false =>
            cases k3 : ((d : Int) == 3) with
            | true =>
              have hFi := c2_Final l a.n hl hok
              have hfo : finalOk l a.n = false := by unfold finalOk; rw [hm]; rfl
              rw [hfo, if_neg (by decide), if_neg (by decide), if_neg (by decide)] at hFi
              have hSX := spoil_Limbo [] (by simp) (by decide)
              simp only [go_sem, seval, spEs, k2, k3, List.length_map, List.getElem?_map, ea, Int.toNat_natCast, Act20.av]
              repeat with_reducible refine And.intro (by first | omega | (simp only [List.length_cons, List.length_append, List.length_nil, List.length_map, List.length_take, List.length_drop, List.length_set]; omega)) ?_
              try simp only [go_sem, seval, spEs, List.length_map, List.getElem?_map, ea, Int.toNat_natCast, Act20.av]
              refine ex_fork2 (.cons (dsl _ _ _) (.cons (.refl _) .nil)) (by exact hFi) rfl rfl rfl rfl (fun z t => ?_)
              simp only [go_sem, seval, spEs, ASt.stow, AV.stowT, AV.stowA, AV.stow, List.map_nil]
              refine ex_ask t (.tail _ (.head _)) (.cons (.st (dsl _ _ _)) (.cons (.dull (dsl _ _ _) rfl) .nil)) (by exact hE0) rfl ?_
              simp only [go_sem, seval, spEs]
              refine ex_spoil t [z] [] rfl rfl (.st _) (by exact hSX) ?_
              simp only [go_sem, seval, spEs, ASt.unstow]
              try simp only [go_sem, seval, spEs]
              refine ex_call (by exact c_law20_num _) ?_
              simp only [go_sem, seval, spEs, bne_self_eq_false]
              refine ex_plain (.cons (dsl _ _ _) (.cons (dsl _ _ _) .nil)) (by exact hEqL) ?_
              simp only [go_sem, seval, spEs]
              refine ex_spoil z [] [] rfl rfl (.st _) (by exact hSX) ?_
              simp only [go_sem, seval, spEs, ASt.unstow]
              refine ex_plain (.cons (dsl _ _ _) (.cons (dsl _ _ _) .nil)) (by exact hEqL) ?_
              simp only [go_sem, seval, spEs]
              refine next (i + 1, l, true) _ ⟨by dsimp only; omega, hl, hok⟩ (by dsimp only; omega) ?_
              rw [← wi64_nat i (by omega)]
              simp only [ASt.keep, consIf, keepL, keepV, AV.isBot, List.contains_cons, List.contains_nil, Nat.reduceBEq, Bool.or_false, Bool.false_or, Bool.or_true, Bool.true_or, beq_self_eq_true, Bool.false_eq_true, ↓reduceIte, if_false, if_true]
              try rfl
            | false =>
              simp only [go_sem, seval, spEs, k2, k3, List.length_map, List.getElem?_map, ea, Int.toNat_natCast, Act20.av]
              have hPu := c_limbo_PushT l a.t a.n hl hok hao.t
              obtain ⟨e1, e0⟩ := pushErr_one (l := l) (t := a.t) (n := a.n) (by rw [hm]; rintro ⟨h, _⟩; cases h)
              rw [e1, e0] at hPu
              have hSX := spoil_Limbo [] (by simp) (by decide)
              refine ex_draw [] [] (.quiet 0 (.quiet 1 (.quiet 2 (.quiet 4 (.quiet 5 (.one 3 (.one 6 (.quiet 7 (.quiet 8 (.quiet 9 (.quiet 10 (.quiet 11 (.fin))))))))))))) (by kernel_rfl) ?_
              simp only [go_sem, seval, spEs, ex_ord_two, ex_ord_three, List.length_map, List.getElem?_map, ea, Int.toNat_natCast, Act20.av]
              refine ex_call (by exact hCt) ?_
              simp only [go_sem, seval, spEs, List.length_map, List.getElem?_map, ea, Int.toNat_natCast, Act20.av]
              refine ex_fork (.cons (dsl _ _ _) (.cons (.refl _) (.cons (.refl _) .nil))) (by exact hPu) rfl rfl (fun z => ?_)
              simp only [go_sem, seval, spEs, ASt.stow, AV.stowT, AV.stowA, AV.stow, List.map_nil]
              try simp only [go_sem, seval, spEs]
              refine ex_call (by exact c_law20_num _) ?_
              simp only [go_sem, seval, spEs, bne_self_eq_false]
              refine ex_plain (.cons (dsl _ _ _) (.cons (dsl _ _ _) .nil)) (by exact hEqL) ?_
              simp only [go_sem, seval, spEs]
              refine ex_spoil z [] [] rfl rfl (.st _) (by exact hSX) ?_
              simp only [go_sem, seval, spEs, ASt.unstow]
              refine ex_plain (.cons (dsl _ _ _) (.cons (dsl _ _ _) .nil)) (by exact hEqL) ?_
              simp only [go_sem, seval, spEs]
              refine next (i + 1, l, true) _ ⟨by dsimp only; omega, hl, hok⟩ (by dsimp only; omega) ?_
              rw [← wi64_nat i (by omega)]
              simp only [ASt.keep, consIf, keepL, keepV, AV.isBot, List.contains_cons, List.contains_nil, Nat.reduceBEq, Bool.or_false, Bool.false_or, Bool.or_true, Bool.true_or, beq_self_eq_true, Bool.false_eq_true, ↓reduceIte, if_false, if_true]
              try rfl
        | true =>
          obtain ⟨h48, hs, hva⟩ := limbo_sorted hm
          simp only [go_sem, seval, spEs, bne_self_eq_false]
          refine ex_call_dull (.cons (dsl _ _ _) .nil) (by exact hCp) ?_
          simp only [go_sem, seval, spEs, List.length_map, List.getElem?_map, ea, Int.toNat_natCast, Act20.av]
          repeat with_reducible refine And.intro (by first | omega | (simp only [List.length_cons, List.length_append, List.length_nil, List.length_map, List.length_take, List.length_drop, List.length_set]; omega)) ?_
          try simp only [go_sem, seval, spEs, List.length_map, List.getElem?_map, ea, Int.toNat_natCast, Act20.av]
          refine ex_call (by exact hW) ?_
          cases k2 : ((d : Int) == 2) with
          | true =>
            simp only [go_sem, seval, spEs, k2, List.length_map, List.getElem?_map, ea, Int.toNat_natCast, Act20.av]
            have hWt := c_Within a.n 1000 (by decide) (by decide)
            try simp only [go_sem, seval, spEs, List.length_map, List.getElem?_map, ea, Int.toNat_natCast, Act20.av]
            repeat with_reducible refine And.intro (by first | omega | (simp only [List.length_cons, List.length_append, List.length_nil, List.length_map, List.length_take, List.length_drop, List.length_set]; omega)) ?_
            try simp only [go_sem, seval, spEs, List.length_map, List.getElem?_map, ea, Int.toNat_natCast, Act20.av]
            refine ex_call (by exact hWt) ?_
            simp only [go_sem, seval, spEs, List.length_map, List.getElem?_map, ea, Int.toNat_natCast, Act20.av]
            refine ex_call (by exact hVt) ?_
            simp only [go_sem, seval, spEs]
            obtain ⟨id0, hid0⟩ : ∃ id0 : Int, id0 = IntKind.u64.wrap ((withinOf a.n 1000 : Nat) : Int) := ⟨_, rfl⟩
            obtain ⟨id1, hid1, hid2⟩ : ∃ id1 : Int, (validTx a.t = true → id1 = idTx a.t) ∧ (validTx a.t = false → id1 = id0) := by
              cases validTx a.t
              · exact ⟨id0, fun h => by (cases h), fun _ => rfl⟩
              · exact ⟨idTx a.t, fun _ => rfl, fun h => by (cases h)⟩
            rw [← hid0]
            refine ex_if 13 (.int .u64 id1) (fun hv => ?_) (fun hv => ?_) ?_
            · have hID : Contract Try.prog 57 [txE a.t] (.int .u64 (idTx a.t)) := c_ref7_ID a.t hao.t hv
              rw [hid1 hv]
              simp only [go_sem, seval, spEs]
              refine ex_call (by exact hID) ?_
              simp only [go_sem, seval, spEs]
              try rfl
            · rw [hid2 hv]
              simp only [go_sem, seval, spEs]
              try rfl
            simp only [go_sem, seval, spEs, List.length_map]
            refine ex_joinB 119 (decide ((l.length : Int) > 0) && decide (a.n.tmod 3 > 0)) ?_ ?_
            · cases b1 : decide ((l.length : Int) > 0) <;> cases b2 : decide (a.n.tmod 3 > 0)
              all_goals simp only [go_sem, seval, spEs, b1, b2]
              all_goals (try rfl)
            simp only [go_sem, seval, spEs, List.length_map]
            obtain ⟨id2, hid3, hid4⟩ : ∃ id2 : Int, (∀ x, l[withinOf a.n l.length]? = some x → (decide ((l.length : Int) > 0) && decide (a.n.tmod 3 > 0)) = true → id2 = idTx x.t) ∧ ((decide ((l.length : Int) > 0) && decide (a.n.tmod 3 > 0)) = false → id2 = id1) := by
              cases (decide ((l.length : Int) > 0) && decide (a.n.tmod 3 > 0))
              · exact ⟨id1, fun x _ h => by (cases h), fun _ => rfl⟩
              · cases e : l[withinOf a.n l.length]? with
                | none => exact ⟨id1, fun x e => by (cases e), fun _ => rfl⟩
                | some y => exact ⟨idTx y.t, fun x e _ => by (cases e; rfl), fun h => by (cases h)⟩
            refine ex_if 13 (.int .u64 id2) (fun hv => ?_) (fun hv => ?_) ?_
            · have hpos : 0 < l.length := by
                have := (Bool.and_eq_true_iff.1 hv).1
                simpa using this
              have hwl : withinOf a.n l.length < l.length := Nat.mod_lt _ hpos
              obtain ⟨x, ex⟩ : ∃ x, l[withinOf a.n l.length]? = some x := ⟨_, List.getElem?_eq_getElem hwl⟩
              have hx := List.mem_of_getElem? ex
              have hID : Contract Try.prog 57 [txE x.t] (.int .u64 (idTx x.t)) := c_ref7_ID x.t (hok x hx).t (hva x hx)
              have hWl := c_Within a.n l.length hpos (by omega)
              rw [hid3 x ex hv]
              simp only [go_sem, seval, spEs, List.length_map]
              refine ex_call (by exact hWl) ?_
              simp only [go_sem, seval, spEs, List.length_map, List.getElem?_map, ex, Option.map_some, Int.toNat_natCast, HeldD.av]
              repeat with_reducible refine And.intro (by first | omega | (simp only [List.length_cons, List.length_append, List.length_nil, List.length_map, List.length_take, List.length_drop, List.length_set]; omega)) ?_
              try simp only [go_sem, seval, spEs, List.length_map, List.getElem?_map, ex, Option.map_some, Int.toNat_natCast, HeldD.av]
              refine ex_call (by exact hID) ?_
              simp only [go_sem, seval, spEs]
              try rfl
            · rw [hid4 hv]
              simp only [go_sem, seval, spEs]
              try rfl
            simp only [go_sem, seval, spEs]
            have hPl := c_limbo_PullT l id2 hl hok
            have hqa : pullAll l id2 = pullOf l id2 := by unfold pullAll; rw [hm]; rfl
            rw [hqa] at hPl
            have hHx := c_ref16_Held l id2 hl hok hs hva
            have hpp := (place_pos l id2 hs).1
            cases hth : thereAt l id2 (posOf l id2) with
            | false =>
              have hq2 : pullOf l id2 = ([], zeroH, 3) := by
                unfold pullOf
                unfold thereAt at hth
                cases e : l[posOf l id2]? with
                | none => rfl
                | some x => rw [e] at hth; show (if idTx x.t = id2 then (l.eraseIdx (posOf l id2), x, (0 : Int)) else ([], zeroH, 3)) = _; rw [if_neg (by simpa using hth)]
              have hix : heldIx l id2 = -1 := by unfold heldIx; rw [hth]; rfl
              rw [hq2] at hPl
              rw [hix] at hHx
              have hSX := spoil_Limbo [] (by simp) (by decide)
              refine ex_fork (.cons (dsl _ _ _) (.cons (.refl _) .nil)) (by exact hPl) rfl rfl (fun z => ?_)
              simp only [go_sem, seval, spEs, ASt.stow, AV.stowT, AV.stowA, AV.stow, HeldD.dull, List.map_nil]
              refine ex_call_dull (.cons (dsl _ _ _) (.cons (.refl _) .nil)) (by exact hHx) ?_
              simp only [go_sem, seval, spEs]
              refine ex_ask z (.head _) (.cons (held_by zeroH z) (.cons (.dull zeroHA_dull rfl) .nil)) (by exact hEZ) rfl ?_
              try simp only [go_sem, seval, spEs]
              refine ex_call (by exact c_law20_num _) ?_
              simp only [go_sem, seval, spEs, bne_self_eq_false]
              refine ex_plain (.cons (dsl _ _ _) (.cons (dsl _ _ _) .nil)) (by exact hEqL) ?_
              simp only [go_sem, seval, spEs]
              refine ex_spoil z [] [] rfl rfl (.st _) (by exact hSX) ?_
              simp only [go_sem, seval, spEs, ASt.unstow]
              refine ex_plain (.cons (dsl _ _ _) (.cons (dsl _ _ _) .nil)) (by exact hEqL) ?_
              simp only [go_sem, seval, spEs]
              refine next (i + 1, l, true) _ ⟨by dsimp only; omega, hl, hok⟩ (by dsimp only; omega) ?_
              rw [← wi64_nat i (by omega)]
              simp only [ASt.keep, consIf, keepL, keepV, AV.isBot, List.contains_cons, List.contains_nil, Nat.reduceBEq, Bool.or_false, Bool.false_or, Bool.or_true, Bool.true_or, beq_self_eq_true, Bool.false_eq_true, ↓reduceIte, if_false, if_true]
              try rfl
            | true =>
              obtain ⟨p, hp⟩ : ∃ p, p = posOf l id2 := ⟨_, rfl⟩
              obtain ⟨x, ex, hxi⟩ : ∃ x, l[p]? = some x ∧ idTx x.t = id2 := by
                rw [hp]
                unfold thereAt at hth
                cases e : l[posOf l id2]? with
                | none => rw [e] at hth; cases hth
                | some x => rw [e] at hth; exact ⟨x, rfl, by simpa using hth⟩
              have hq2 : pullOf l id2 = (l.eraseIdx p, x, 0) := by
                unfold pullOf
                rw [← hp, ex]
                show (if idTx x.t = id2 then _ else _) = _
                rw [if_pos hxi]
              have hix : heldIx l id2 = p := by unfold heldIx; rw [hth, hp]; rfl
              have hplt := (List.getElem?_eq_some_iff.1 ex).1
              have hxo := hok x (List.mem_of_getElem? ex)
              have hXl : (l.eraseIdx p).length * 208 ≤ reachBytes := by
                have h1 : (l.eraseIdx p).length ≤ l.length := by rw [List.length_eraseIdx]; split <;> omega
                exact Nat.le_trans (Nat.mul_le_mul_right _ h1) hl
              have hXo := held_ok hok p
              have hWo := c_Without l p hplt hl hok
              have hEH := c_EqHeld x x hxo hxo
              rw [decide_eq_true rfl] at hEH
              have dp : decide ((p : Int) ≥ 0) = true := decide_eq_true (by omega)
              rw [hq2] at hPl
              rw [hix] at hHx
              dsimp only at hPl
              generalize l.eraseIdx p = X at *
              have hEX := c_EqLimbo X X hXl hXl hXo hXo
              rw [decide_eq_true rfl] at hEX
              have hSX := spoil_Limbo X hXo (by unfold reachBytes at hXl; omega)
              have hCX := c_CopyLimbo X hXl hXo
              refine ex_fork (.cons (dsl _ _ _) (.cons (.refl _) .nil)) (by exact hPl) rfl rfl (fun z => ?_)
              simp only [go_sem, seval, spEs, ASt.stow, AV.stowT, AV.stowA, AV.stow, HeldD.dull]
              refine ex_call_dull (.cons (dsl _ _ _) (.cons (.refl _) .nil)) (by exact hHx) ?_
              simp only [go_sem, seval, spEs, dp]
              refine ex_draw [9] [] (.quiet 0 (.quiet 1 (.quiet 3 (.quiet 4 (.quiet 5 (.two 2 (.quiet 7 (.quiet 8 (.one 6 (.unlock (.one 9 (.fin)))))) 6 (.one 2 (.quiet 7 (.quiet 8 (.unlock (.one 9 (.fin)))))))))))) (by kernel_rfl) ?_
              simp only [go_sem, seval, spEs, ex_ord_two, ex_ord_three]
              refine ⟨⟨by omega, by rw [List.length_map]; omega⟩, ?_, ?_⟩
              · refine ex_call_dull (.cons (dsl _ _ _) (.cons (.refl _) .nil)) (by exact hWo) ?_
                simp only [go_sem, seval, spEs, List.length_map, List.getElem?_map, ex, Option.map_some, Int.toNat_natCast, HeldD.av]
                repeat with_reducible refine And.intro (by first | omega | (simp only [List.length_cons, List.length_append, List.length_nil, List.length_map, List.length_take, List.length_drop, List.length_set]; omega)) ?_
                try simp only [go_sem, seval, spEs, List.length_map, List.getElem?_map, ex, Option.map_some, Int.toNat_natCast, HeldD.av]
                refine ex_ask z (.head _) (.cons (held_by x z) (.cons (.dull (.refl _) rfl) .nil)) (by exact hEH) rfl ?_
                try simp only [go_sem, seval, spEs]
                refine ex_call (by exact c_law20_num _) ?_
                simp only [go_sem, seval, spEs, bne_self_eq_false]
                refine ex_ask z (.head _) (.cons (.st (helds_map _ true)) (.cons (.dull (dsl _ _ _) rfl) .nil)) (by exact hEX) rfl ?_
                simp only [go_sem, seval, spEs]
                refine ex_plain (.cons (dsl _ _ _) (.cons (dsl _ _ _) .nil)) (by exact hEqL) ?_
                simp only [go_sem, seval, spEs]
                refine ex_spoil z [] [] rfl rfl (.st _) (by exact hSX) ?_
                simp only [go_sem, seval, spEs, ASt.unstow]
                refine ex_plain (.cons (dsl _ _ _) (.cons (dsl _ _ _) .nil)) (by exact hEqL) ?_
                simp only [go_sem, seval, spEs]
                refine ex_call_dull (.cons (dsl _ _ _) .nil) (by exact hCX) ?_
                simp only [go_sem, seval, spEs]
                refine next (i + 1, X, false) _ ⟨by dsimp only; omega, hXl, hXo⟩ (by dsimp only; omega) ?_
                rw [← wi64_nat i (by omega)]
                simp only [ASt.keep, consIf, keepL, keepV, AV.isBot, List.contains_cons, List.contains_nil, Nat.reduceBEq, Bool.or_false, Bool.false_or, Bool.or_true, Bool.true_or, beq_self_eq_true, Bool.false_eq_true, ↓reduceIte, if_false, if_true]
                try rfl
              · try simp only [go_sem, seval, spEs, List.length_map, List.getElem?_map, ex, Option.map_some, Int.toNat_natCast, HeldD.av]
                repeat with_reducible refine And.intro (by first | omega | (simp only [List.length_cons, List.length_append, List.length_nil, List.length_map, List.length_take, List.length_drop, List.length_set]; omega)) ?_
                try simp only [go_sem, seval, spEs, List.length_map, List.getElem?_map, ex, Option.map_some, Int.toNat_natCast, HeldD.av]
                refine ex_call_dull (.cons (dsl _ _ _) (.cons (.refl _) .nil)) (by exact hWo) ?_
                simp only [go_sem, seval, spEs, List.length_map, List.getElem?_map, ex, Option.map_some, Int.toNat_natCast, HeldD.av]
                refine ex_ask z (.head _) (.cons (held_by x z) (.cons (.dull (.refl _) rfl) .nil)) (by exact hEH) rfl ?_
                try simp only [go_sem, seval, spEs]
                refine ex_call (by exact c_law20_num _) ?_
                simp only [go_sem, seval, spEs, bne_self_eq_false]
                refine ex_ask z (.head _) (.cons (.st (helds_map _ true)) (.cons (.dull (dsl _ _ _) rfl) .nil)) (by exact hEX) rfl ?_
                simp only [go_sem, seval, spEs]
                refine ex_plain (.cons (dsl _ _ _) (.cons (dsl _ _ _) .nil)) (by exact hEqL) ?_
                simp only [go_sem, seval, spEs]
                refine ex_spoil z [] [] rfl rfl (.st _) (by exact hSX) ?_
                simp only [go_sem, seval, spEs, ASt.unstow]
                refine ex_plain (.cons (dsl _ _ _) (.cons (dsl _ _ _) .nil)) (by exact hEqL) ?_
                simp only [go_sem, seval, spEs]
                refine ex_call_dull (.cons (dsl _ _ _) .nil) (by exact hCX) ?_
                simp only [go_sem, seval, spEs]
                refine next (i + 1, X, false) _ ⟨by dsimp only; omega, hXl, hXo⟩ (by dsimp only; omega) ?_
                rw [← wi64_nat i (by omega)]
                simp only [ASt.keep, consIf, keepL, keepV, AV.isBot, List.contains_cons, List.contains_nil, Nat.reduceBEq, Bool.or_false, Bool.false_or, Bool.or_true, Bool.true_or, beq_self_eq_true, Bool.false_eq_true, ↓reduceIte, if_false, if_true]
                try rfl
          | false =>
            cases k3 : ((d : Int) == 3) with
            | true =>
              have hFi := c2_Final l a.n hl hok
              have hrF := c_ref20_Final l a.n hl hok
              cases hnm : (decide (0 ≤ a.n) && decide (a.n ≤ 1099511627776)) with
              | false =>
                have hfo : finalOk l a.n = false := by unfold finalOk; rw [hm, hnm]; rfl
                rw [hfo, if_neg (by decide), if_neg (by decide), if_neg (by decide)] at hFi
                rw [hnm] at hN
                have hSX := spoil_Limbo [] (by simp) (by decide)
                simp only [go_sem, seval, spEs, k2, k3, List.length_map, List.getElem?_map, ea, Int.toNat_natCast, Act20.av]
                repeat with_reducible refine And.intro (by first | omega | (simp only [List.length_cons, List.length_append, List.length_nil, List.length_map, List.length_take, List.length_drop, List.length_set]; omega)) ?_
                try simp only [go_sem, seval, spEs, List.length_map, List.getElem?_map, ea, Int.toNat_natCast, Act20.av]
                refine ex_fork2 (.cons (dsl _ _ _) (.cons (.refl _) .nil)) (by exact hFi) rfl rfl rfl rfl (fun z t => ?_)
                simp only [go_sem, seval, spEs, ASt.stow, AV.stowT, AV.stowA, AV.stow, List.map_nil, List.length_map, List.getElem?_map, ea, Int.toNat_natCast, Act20.av]
                refine ex_call (by exact hN) ?_
                simp only [go_sem, seval, spEs, List.length_map, List.getElem?_map, ea, Int.toNat_natCast, Act20.av]
                refine ex_ask t (.tail _ (.head _)) (.cons (.st (dsl _ _ _)) (.cons (.dull (dsl _ _ _) rfl) .nil)) (by exact hE0) rfl ?_
                simp only [go_sem, seval, spEs]
                refine ex_spoil t [z] [] rfl rfl (.st _) (by exact hSX) ?_
                simp only [go_sem, seval, spEs, ASt.unstow]
                try simp only [go_sem, seval, spEs]
                refine ex_call (by exact c_law20_num _) ?_
                simp only [go_sem, seval, spEs, bne_self_eq_false]
                refine ex_plain (.cons (dsl _ _ _) (.cons (dsl _ _ _) .nil)) (by exact hEqL) ?_
                simp only [go_sem, seval, spEs]
                refine ex_spoil z [] [] rfl rfl (.st _) (by exact hSX) ?_
                simp only [go_sem, seval, spEs, ASt.unstow]
                refine ex_plain (.cons (dsl _ _ _) (.cons (dsl _ _ _) .nil)) (by exact hEqL) ?_
                simp only [go_sem, seval, spEs]
                refine next (i + 1, l, true) _ ⟨by dsimp only; omega, hl, hok⟩ (by dsimp only; omega) ?_
                rw [← wi64_nat i (by omega)]
                simp only [ASt.keep, consIf, keepL, keepV, AV.isBot, List.contains_cons, List.contains_nil, Nat.reduceBEq, Bool.or_false, Bool.false_or, Bool.or_true, Bool.true_or, beq_self_eq_true, Bool.false_eq_true, ↓reduceIte, if_false, if_true]
                try rfl
              | true =>
                have hfo : finalOk l a.n = true := by unfold finalOk; rw [hm, hnm]; rfl
                rw [hfo, if_pos rfl, if_pos rfl, if_pos rfl] at hFi
                rw [hnm] at hN
                have hXl : (stayOf l a.n).length * 208 ≤ reachBytes := Nat.le_trans (Nat.mul_le_mul_right _ (List.length_filter_le _ _)) hl
                have hXo := stay_ok (b := a.n) hok
                have hYl : (goneOf l a.n).length * 208 ≤ reachBytes := Nat.le_trans (Nat.mul_le_mul_right _ (List.length_filter_le _ _)) hl
                have hYo := gone_ok (b := a.n) hok
                have hEY := c_EqLimbo (goneOf l a.n) (goneOf l a.n) hYl hYl hYo hYo
                rw [decide_eq_true rfl] at hEY
                have hSY := spoil_Limbo (goneOf l a.n) hYo (by unfold reachBytes at hYl; omega)
                generalize goneOf l a.n = Y at *
                generalize stayOf l a.n = X at *
                have hEX := c_EqLimbo X X hXl hXl hXo hXo
                rw [decide_eq_true rfl] at hEX
                have hSX := spoil_Limbo X hXo (by unfold reachBytes at hXl; omega)
                have hCX := c_CopyLimbo X hXl hXo
                simp only [go_sem, seval, spEs, k2, k3, List.length_map, List.getElem?_map, ea, Int.toNat_natCast, Act20.av]
                repeat with_reducible refine And.intro (by first | omega | (simp only [List.length_cons, List.length_append, List.length_nil, List.length_map, List.length_take, List.length_drop, List.length_set]; omega)) ?_
                try simp only [go_sem, seval, spEs, List.length_map, List.getElem?_map, ea, Int.toNat_natCast, Act20.av]
                refine ex_fork2 (.cons (dsl _ _ _) (.cons (.refl _) .nil)) (by exact hFi) rfl rfl rfl rfl (fun z t => ?_)
                simp only [go_sem, seval, spEs, ASt.stow, AV.stowT, AV.stowA, AV.stow, List.length_map, List.getElem?_map, ea, Int.toNat_natCast, Act20.av]
                refine ex_call (by exact hN) ?_
                simp only [go_sem, seval, spEs, List.length_map, List.getElem?_map, ea, Int.toNat_natCast, Act20.av]
                repeat with_reducible refine And.intro (by first | omega | (simp only [List.length_cons, List.length_append, List.length_nil, List.length_map, List.length_take, List.length_drop, List.length_set]; omega)) ?_
                try simp only [go_sem, seval, spEs, List.length_map, List.getElem?_map, ea, Int.toNat_natCast, Act20.av]
                refine ex_call_dull (.cons (dsl _ _ _) (.cons (.refl _) .nil)) (by exact hrF) ?_
                simp only [go_sem, seval, spEs]
                refine ex_ask t (.tail _ (.head _)) (.cons (.st (helds_map _ true)) (.cons (.dull (dsl _ _ _) rfl) .nil)) (by exact hEY) rfl ?_
                simp only [go_sem, seval, spEs]
                refine ex_spoil t [z] [] rfl rfl (.st _) (by exact hSY) ?_
                simp only [go_sem, seval, spEs, ASt.unstow]
                try simp only [go_sem, seval, spEs]
                refine ex_call (by exact c_law20_num _) ?_
                simp only [go_sem, seval, spEs, bne_self_eq_false]
                refine ex_ask z (.head _) (.cons (.st (helds_map _ true)) (.cons (.dull (dsl _ _ _) rfl) .nil)) (by exact hEX) rfl ?_
                simp only [go_sem, seval, spEs]
                refine ex_plain (.cons (dsl _ _ _) (.cons (dsl _ _ _) .nil)) (by exact hEqL) ?_
                simp only [go_sem, seval, spEs]
                refine ex_spoil z [] [] rfl rfl (.st _) (by exact hSX) ?_
                simp only [go_sem, seval, spEs, ASt.unstow]
                refine ex_plain (.cons (dsl _ _ _) (.cons (dsl _ _ _) .nil)) (by exact hEqL) ?_
                simp only [go_sem, seval, spEs]
                refine ex_call_dull (.cons (dsl _ _ _) .nil) (by exact hCX) ?_
                simp only [go_sem, seval, spEs]
                refine next (i + 1, X, false) _ ⟨by dsimp only; omega, hXl, hXo⟩ (by dsimp only; omega) ?_
                rw [← wi64_nat i (by omega)]
                simp only [ASt.keep, consIf, keepL, keepV, AV.isBot, List.contains_cons, List.contains_nil, Nat.reduceBEq, Bool.or_false, Bool.false_or, Bool.or_true, Bool.true_or, beq_self_eq_true, Bool.false_eq_true, ↓reduceIte, if_false, if_true]
                try rfl
            | false =>
              simp only [go_sem, seval, spEs, k2, k3, List.length_map, List.getElem?_map, ea, Int.toNat_natCast, Act20.av]
              refine ex_call (by exact hVt) ?_
              cases hvt : validTx a.t with
              | false =>
                simp only [go_sem, seval, spEs, k2, k3, List.length_map, List.getElem?_map, ea, Int.toNat_natCast, Act20.av]
                have hPu := c_limbo_PushT l a.t a.n hl hok hao.t
                obtain ⟨e1, e0⟩ := pushErr_one (l := l) (t := a.t) (n := a.n) (by rw [hvt]; rintro ⟨_, h, _⟩; cases h)
                rw [e1, e0] at hPu
                have hSX := spoil_Limbo [] (by simp) (by decide)
                refine ex_draw [] [] (.quiet 0 (.quiet 1 (.quiet 2 (.quiet 4 (.quiet 5 (.one 3 (.one 6 (.quiet 7 (.quiet 8 (.quiet 9 (.quiet 10 (.quiet 11 (.fin))))))))))))) (by kernel_rfl) ?_
                simp only [go_sem, seval, spEs, ex_ord_two, ex_ord_three, List.length_map, List.getElem?_map, ea, Int.toNat_natCast, Act20.av]
                refine ex_call (by exact hCt) ?_
                simp only [go_sem, seval, spEs, List.length_map, List.getElem?_map, ea, Int.toNat_natCast, Act20.av]
                refine ex_fork (.cons (dsl _ _ _) (.cons (.refl _) (.cons (.refl _) .nil))) (by exact hPu) rfl rfl (fun z => ?_)
                simp only [go_sem, seval, spEs, ASt.stow, AV.stowT, AV.stowA, AV.stow, List.map_nil]
                try simp only [go_sem, seval, spEs]
                refine ex_call (by exact c_law20_num _) ?_
                simp only [go_sem, seval, spEs, bne_self_eq_false]
                refine ex_plain (.cons (dsl _ _ _) (.cons (dsl _ _ _) .nil)) (by exact hEqL) ?_
                simp only [go_sem, seval, spEs]
                refine ex_spoil z [] [] rfl rfl (.st _) (by exact hSX) ?_
                simp only [go_sem, seval, spEs, ASt.unstow]
                refine ex_plain (.cons (dsl _ _ _) (.cons (dsl _ _ _) .nil)) (by exact hEqL) ?_
                simp only [go_sem, seval, spEs]
                refine next (i + 1, l, true) _ ⟨by dsimp only; omega, hl, hok⟩ (by dsimp only; omega) ?_
                rw [← wi64_nat i (by omega)]
                simp only [ASt.keep, consIf, keepL, keepV, AV.isBot, List.contains_cons, List.contains_nil, Nat.reduceBEq, Bool.or_false, Bool.false_or, Bool.or_true, Bool.true_or, beq_self_eq_true, Bool.false_eq_true, ↓reduceIte, if_false, if_true]
                try rfl
              | true =>
                simp only [go_sem, seval, spEs, k2, k3, List.length_map, List.getElem?_map, ea, Int.toNat_natCast, Act20.av]
                refine ex_call (by exact hN) ?_
                cases hnm : (decide (0 ≤ a.n) && decide (a.n ≤ 1099511627776)) with
                | false =>
                  simp only [go_sem, seval, spEs, List.length_map, List.getElem?_map, ea, Int.toNat_natCast, Act20.av]
                  have hPu := c_limbo_PushT l a.t a.n hl hok hao.t
                  obtain ⟨e1, e0⟩ := pushErr_one (l := l) (t := a.t) (n := a.n) (by rintro ⟨_, _, h1, h2⟩; simp [h1, h2] at hnm)
                  rw [e1, e0] at hPu
                  have hSX := spoil_Limbo [] (by simp) (by decide)
                  refine ex_draw [] [] (.quiet 0 (.quiet 1 (.quiet 2 (.quiet 4 (.quiet 5 (.one 3 (.one 6 (.quiet 7 (.quiet 8 (.quiet 9 (.quiet 10 (.quiet 11 (.fin))))))))))))) (by kernel_rfl) ?_
                  simp only [go_sem, seval, spEs, ex_ord_two, ex_ord_three, List.length_map, List.getElem?_map, ea, Int.toNat_natCast, Act20.av]
                  refine ex_call (by exact hCt) ?_
                  simp only [go_sem, seval, spEs, List.length_map, List.getElem?_map, ea, Int.toNat_natCast, Act20.av]
                  refine ex_fork (.cons (dsl _ _ _) (.cons (.refl _) (.cons (.refl _) .nil))) (by exact hPu) rfl rfl (fun z => ?_)
                  simp only [go_sem, seval, spEs, ASt.stow, AV.stowT, AV.stowA, AV.stow, List.map_nil]
                  try simp only [go_sem, seval, spEs]
                  refine ex_call (by exact c_law20_num _) ?_
                  simp only [go_sem, seval, spEs, bne_self_eq_false]
                  refine ex_plain (.cons (dsl _ _ _) (.cons (dsl _ _ _) .nil)) (by exact hEqL) ?_
                  simp only [go_sem, seval, spEs]
                  refine ex_spoil z [] [] rfl rfl (.st _) (by exact hSX) ?_
                  simp only [go_sem, seval, spEs, ASt.unstow]
                  refine ex_plain (.cons (dsl _ _ _) (.cons (dsl _ _ _) .nil)) (by exact hEqL) ?_
                  simp only [go_sem, seval, spEs]
                  refine next (i + 1, l, true) _ ⟨by dsimp only; omega, hl, hok⟩ (by dsimp only; omega) ?_
                  rw [← wi64_nat i (by omega)]
                  simp only [ASt.keep, consIf, keepL, keepV, AV.isBot, List.contains_cons, List.contains_nil, Nat.reduceBEq, Bool.or_false, Bool.false_or, Bool.or_true, Bool.true_or, beq_self_eq_true, Bool.false_eq_true, ↓reduceIte, if_false, if_true]
                  try rfl
                | true =>
                  have hn2 : 0 ≤ a.n ∧ a.n ≤ 1099511627776 := by simpa using hnm
                  have hPu := c_limbo_PushT l a.t a.n hl hok hao.t
                  have hRP := c_ref20_Push l a.t a.n hl hok hao.t hm hvt hn2
                  have hXo := pushOut_ok (l := l) (t := a.t) (n := a.n) hok hao.t hao.n
                  have hXl0 := pushOut_len l a.t a.n
                  have hXn : pushErr l a.t a.n ≠ 0 → pushOut l a.t a.n = [] := fun h => by unfold pushOut; rw [if_neg h]
                  generalize pushOut l a.t a.n = X at *
                  generalize pushErr l a.t a.n = er at *
                  have hXl : X.length * 208 ≤ reachBytes := by unfold reachBytes; omega
                  have hEX := c_EqLimbo X X hXl hXl hXo hXo
                  rw [decide_eq_true rfl] at hEX
                  have hSX := spoil_Limbo X hXo (by omega)
                  have hCX := c_CopyLimbo X hXl hXo
                  simp only [go_sem, seval, spEs, List.length_map, List.getElem?_map, ea, Int.toNat_natCast, Act20.av]
                  repeat with_reducible refine And.intro (by first | omega | (simp only [List.length_cons, List.length_append, List.length_nil, List.length_map, List.length_take, List.length_drop, List.length_set]; omega)) ?_
                  try simp only [go_sem, seval, spEs, List.length_map, List.getElem?_map, ea, Int.toNat_natCast, Act20.av]
                  refine ex_call_dull (.cons (dsl _ _ _) (.cons (.refl _) (.cons (.refl _) .nil))) (by exact hRP) ?_
                  simp only [go_sem, seval, spEs]
                  refine ex_draw [] [] (.quiet 0 (.quiet 1 (.quiet 2 (.quiet 4 (.quiet 5 (.one 3 (.one 6 (.quiet 7 (.quiet 8 (.quiet 9 (.quiet 10 (.quiet 11 (.fin))))))))))))) (by kernel_rfl) ?_
                  simp only [go_sem, seval, spEs, ex_ord_two, ex_ord_three, List.length_map, List.getElem?_map, ea, Int.toNat_natCast, Act20.av]
                  refine ex_call (by exact hCt) ?_
                  simp only [go_sem, seval, spEs, List.length_map, List.getElem?_map, ea, Int.toNat_natCast, Act20.av]
                  refine ex_fork (.cons (dsl _ _ _) (.cons (.refl _) (.cons (.refl _) .nil))) (by exact hPu) rfl rfl (fun z => ?_)
                  cases h0 : (er == 0) with
                  | false =>
                    simp only [go_sem, seval, spEs, ASt.stow, AV.stowT, AV.stowA, AV.stow]
                    try simp only [go_sem, seval, spEs]
                    refine ex_call (by exact c_law20_num _) ?_
                    simp only [go_sem, seval, spEs, bne_self_eq_false, h0]
                    refine ex_plain (.cons (dsl _ _ _) (.cons (dsl _ _ _) .nil)) (by exact hEqL) ?_
                    simp only [go_sem, seval, spEs]
                    refine ex_spoil z [] [] rfl rfl (.st _) (by exact hSX) ?_
                    simp only [go_sem, seval, spEs, ASt.unstow]
                    refine ex_plain (.cons (dsl _ _ _) (.cons (dsl _ _ _) .nil)) (by exact hEqL) ?_
                    simp only [go_sem, seval, spEs, h0]
                    refine next (i + 1, l, true) _ ⟨by dsimp only; omega, hl, hok⟩ (by dsimp only; omega) ?_
                    rw [← wi64_nat i (by omega)]
                    simp only [ASt.keep, consIf, keepL, keepV, AV.isBot, List.contains_cons, List.contains_nil, Nat.reduceBEq, Bool.or_false, Bool.false_or, Bool.or_true, Bool.true_or, beq_self_eq_true, Bool.false_eq_true, ↓reduceIte, if_false, if_true]
                    try rfl
                  | true =>
                    simp only [go_sem, seval, spEs, ASt.stow, AV.stowT, AV.stowA, AV.stow]
                    try simp only [go_sem, seval, spEs]
                    refine ex_call (by exact c_law20_num _) ?_
                    simp only [go_sem, seval, spEs, bne_self_eq_false, h0]
                    refine ex_ask z (.head _) (.cons (.st (helds_map _ true)) (.cons (.dull (dsl _ _ _) rfl) .nil)) (by exact hEX) rfl ?_
                    simp only [go_sem, seval, spEs]
                    refine ex_plain (.cons (dsl _ _ _) (.cons (dsl _ _ _) .nil)) (by exact hEqL) ?_
                    simp only [go_sem, seval, spEs]
                    refine ex_spoil z [] [] rfl rfl (.st _) (by exact hSX) ?_
                    simp only [go_sem, seval, spEs, ASt.unstow]
                    refine ex_plain (.cons (dsl _ _ _) (.cons (dsl _ _ _) .nil)) (by exact hEqL) ?_
                    simp only [go_sem, seval, spEs, h0]
                    refine ex_call_dull (.cons (dsl _ _ _) .nil) (by exact hCX) ?_
                    simp only [go_sem, seval, spEs]
                    refine next (i + 1, X, false) _ ⟨by dsimp only; omega, hXl, hXo⟩ (by dsimp only; omega) ?_
                    rw [← wi64_nat i (by omega)]
                    simp only [ASt.keep, consIf, keepL, keepV, AV.isBot, List.contains_cons, List.contains_nil, Nat.reduceBEq, Bool.or_false, Bool.false_or, Bool.or_true, Bool.true_or, beq_self_eq_true, Bool.false_eq_true, ↓reduceIte, if_false, if_true]
                    try rfl
      · simp only [go_sem, seval, spEs]
        refine ex_call (by exact c_law20_wakes) ?_
        simp only [go_sem, seval]
        refine finOne ?_ (fun _ e => by cases e)
        show resOf _ _ [.tmp 2] = _
        simp only [go_sem, seval]
theorem law_LimboExact (x : AV) (h : Ty ti 76 x) : Contract Try.prog 10 [x] (.bool true) := by
  obtain ⟨s, rfl, hs⟩ := ty_script h
  exact c_LimboExact s hs
end Go.Proofs.Ytpepfhbfooeoeaa.VA
end
