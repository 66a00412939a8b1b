/- New rows, and what is laid behind a row. -/
import Derived.Test.YtjfnmlheehbojaaVaState3
namespace Go.Proofs.Ytjfnmlheehbojaa.VA

section
variable {F : Fx} {I : Imm} {own : Nat → Option Loc} {σ : ASt} {a : Act} {w w' : World}

theorem cell_alloc_fz (w : World) (cur : Array Value) (T : TypeId) (fz : Nat × Nat) (o : Nat) : (w.alloc (.cells cur T fz)).cell? ⟨w.heap.size, o, none⟩ = cur[o]? := by
  show (match (w.heap.push (.cells cur T fz))[w.heap.size]? with | some (.cells c _ _) => if (none : Option Nat).isSome then none else c[o]? | _ => none) = _
  rw [Array.getElem?_push_size]
  rfl
theorem frozen_alloc_fz (w : World) (cur : Array Value) (T : TypeId) (fz : Nat × Nat) (o : Nat) (h : ¬ (fz.1 ≤ o ∧ o < fz.2)) : (w.alloc (.cells cur T fz)).frozen? ⟨w.heap.size, o, none⟩ = false := by
  show (match (w.heap.push (.cells cur T fz))[w.heap.size]? with | some (.cells _ _ (lo, hi)) => decide (lo ≤ o) && decide (o < hi) | _ => false) = _
  rw [Array.getElem?_push_size]
  obtain ⟨lo, hi⟩ := fz
  simp only [Bool.and_eq_false_iff, decide_eq_false_iff_not]
  exact Decidable.not_and_iff_or_not.1 h

/-- The elements of a row: what the cells hold. -/
def Lies (M : Nat → Prop) (I : Imm) (sz : Nat) (es : List AV) (cur : Nat → Option Value) : Prop :=
  ∀ (i : Nat) e, es[i]? = some e → ∃ v, AR M I e v ∧ v.cells.size = sz ∧ ∀ (j : Nat) c, v.cells[j]? = some c → cur (i * sz + j) = some c

theorem RI.row_new (h : RI F I own σ a w) {cur : Array Value} {T : TypeId} {fz : Nat × Nat} {sz cap : Nat} {es : List AV} (hc : es.length ≤ cap) (hm : cap ≤ maxLen) (hs : cur.size = cap * sz)
    (hfz : ∀ o, o < cur.size → ¬ (fz.1 ≤ o ∧ o < fz.2)) (he : Lies F.mine I sz es fun o => cur[o]?) :
    RI F I own σ a (w.alloc (.cells cur T fz)) ∧ Hand F I own σ (w.alloc (.cells cur T fz)) false sz es (.slice (some ⟨w.heap.size, 0, none⟩) es.length cap) := by
  refine ⟨h.grow (fr_alloc w _), .inr ⟨w.heap.size, cap, rfl, fun l hl => ?_, .inl h.fr.size, by simp, ?_⟩⟩
  · rw [h.own_new (Nat.le_refl _)] at hl; cases hl
  · refine ⟨hc, hm, fun o ho => ?_, fun i e hi => ?_, fun e => (by cases e), fun o _ => h.imm_new (Nat.le_refl _) o⟩
    · have ho' : o < cur.size := by rw [hs]; exact ho
      exact ⟨cur[o], by rw [cell_alloc_fz, Array.getElem?_eq_getElem ho'], frozen_alloc_fz w cur T fz o (hfz o ho')⟩
    · obtain ⟨v, h1, h2, h3⟩ := he i e hi
      exact ⟨v, h1, h2, fun j c hj => by rw [cell_alloc_fz]; exact h3 j c hj⟩

theorem Hand.imm_free {sz : Nat} {es : List AV} {v : Value} (h : RI F I own σ a w) (hh : Hand F I own σ w false sz es v) : ∃ J, Imm.le I J ∧ RI F J own σ a w ∧ Hand F J own σ w true sz es v := by
  rcases hh with hn | ⟨g, cap, rfl, hf, hm, hlt, hr⟩
  · exact ⟨I, Imm.leRefl I, h, .inl hn⟩
  · exact ⟨I.with w g (es.length * sz), Imm.with_le h.imm, h.immFree hf.toW hm, .inr ⟨g, cap, rfl, hf, hm, hlt, hr.share h.imm⟩⟩
theorem Hand.marked {sh : Bool} {sz : Nat} {es : List AV} {v : Value} (h : RI F I own σ a w) (hh : Hand F I own σ w false sz es v) : ∃ J, Imm.le I J ∧ RI F J own σ a w ∧ Hand F J own σ w sh sz es v := by
  cases sh with
  | false => exact ⟨I, Imm.leRefl I, h, hh⟩
  | true => exact Hand.imm_free h hh

section
variable {P : Program} {t t' ty e : TypeId} {i : TypeInfo} {z : Value} (ht : P.underlying t = some (.slice e)) (hi : P.info? e = some i) (hz : i.zero = some z)
  {d' : TypeDesc} (ht' : P.underlying t' = some d') (hd : ∀ k, d' ≠ .int k) (x : Value) (m : Nat) (news : List Value) (hlen : ∀ w', (Builtin.lenOf x).run P w' = .ok m w')
include ht hi ht' hd hlen

theorem run_app_room (hf : ∀ w', (∀ p, w'.cell? p = w.cell? p) → (Builtin.firstCells i.size m x).run P w' = .ok news.toArray w') (hl : news.length = m * i.size) (h1 : ∀ v ∈ news, v.oneCell' = true)
    (g n cap : Nat) (hroom : n + m ≤ cap) (hcells : ∀ o, o < cap * i.size → ∃ v, w.cell? ⟨g, o, none⟩ = some v ∧ w.frozen? ⟨g, o, none⟩ = false) :
    (Builtin.append_ #[t, t'] ty #[.slice (some ⟨g, 0, none⟩) n cap, x]).run P w = .ok (.slice (some ⟨g, 0, none⟩) (n + m) cap) (w.setCells g (n * i.size) news) := by
  have hb : n * i.size + m * i.size ≤ cap * i.size := by rw [← Nat.add_mul]; exact Nat.mul_le_mul_right _ hroom
  have hst := run_storeCells_cells (P := P) g (n * i.size) news 0 w
    (fun j hj => by obtain ⟨v, hv, _⟩ := hcells (n * i.size + 0 + j) (by omega); rw [hv]; rfl)
    (fun j hj => by obtain ⟨v, _, hv⟩ := hcells (n * i.size + 0 + j) (by omega); exact hv) h1
  simp only [Nat.add_zero] at hst
  simp [Builtin.append_, run_underlying ht, run_underlying ht', sizeOf, typeInfo, hi, hlen, hroom, hf w (fun _ => rfl), Addr.add_lit, hst]
  all_goals (cases d' <;> simp_all)

theorem run_app_nil (cap : Nat) (hm : m = 0) (hf : ∀ w', (∀ p, w'.cell? p = w.cell? p) → (Builtin.firstCells i.size m x).run P w' = .ok news.toArray w') :
    (Builtin.append_ #[t, t'] ty #[.slice none 0 cap, x]).run P w = .ok (.slice none 0 cap) w := by
  subst hm
  have := hf w (fun _ => rfl)
  simp [Builtin.append_, run_underlying ht, run_underlying ht', sizeOf, typeInfo, hi, hlen, this]
  all_goals (cases d' <;> simp_all)

include hz in
theorem run_app_grow (hf : ∀ w', (∀ p, w'.cell? p = w.cell? p) → (Builtin.firstCells i.size m x).run P w' = .ok news.toArray w')
    (base : Option Addr) (n cap : Nat) (olds : List Value) (hold : ∀ w', (∀ p, w'.cell? p = w.cell? p) → (Builtin.firstCells i.size n (.slice base n cap)).run P w' = .ok olds.toArray w')
    (hg : cap < n + m) (h63 : n + m ≤ 9223372036854775807) (hfit : Builtin.nextslicecap (n + m) cap * i.bytes ≤ 281474976710656) :
    (Builtin.append_ #[t, t'] ty #[.slice base n cap, x]).run P w =
      .ok (.slice (some ⟨w.heap.size, 0, none⟩) (n + m) (grownCap w (n + m) cap e)) (w.drew.alloc (.cells (olds.toArray ++ news.toArray ++ Builtin.zeroCells z.cells (grownCap w (n + m) cap e - (n + m))) e)) := by
  have hn : ¬ (n + m ≤ cap) := by omega
  have h63' : ¬ (9223372036854775807 < ((n : Int) + (m : Int))) := by omega
  have h48' : ¬ (281474976710656 < Builtin.nextslicecap (n + m) cap * i.bytes) := by omega
  have h1 := hf w.drew (fun _ => rfl)
  have h2 := hold w.drew (fun _ => rfl)
  simp [Builtin.append_, run_underlying ht, run_underlying ht', sizeOf, typeInfo, zeroValue, hi, hz, hlen, hn, h63', h48', Question.forced, h1, h2, newRow, grownCap]
  have e1 : olds.toArray ++ (news.toArray ++ Builtin.zeroCells z.cells ((Question.appendCap (n + m) cap e).cut (w.tape w.drawn (Question.appendCap (n + m) cap e)) - (n + m))) =
      (olds ++ news).toArray ++ Builtin.zeroCells z.cells ((Question.appendCap (n + m) cap e).cut (w.tape w.drawn (Question.appendCap (n + m) cap e)) - (n + m)) := by
    rw [← Array.append_assoc]; simp
  cases d' with
  | int k => exact (hd k rfl).elim
  | _ => simp [e1]
end

theorem Lies.app {M : Nat → Prop} {sz : Nat} {es xs : List AV} {cur : Nat → Option Value} (h1 : Lies M I sz es cur) (h2 : Lies M I sz xs fun o => cur (es.length * sz + o)) : Lies M I sz (es ++ xs) cur := by
  intro i e he
  by_cases hi : i < es.length
  · rw [List.getElem?_append_left hi] at he
    exact h1 i e he
  · rw [List.getElem?_append_right (by omega)] at he
    obtain ⟨v, v1, v2, v3⟩ := h2 _ e he
    refine ⟨v, v1, v2, fun j c hj => ?_⟩
    have := v3 j c hj
    simp only at this
    rw [← this]
    congr 1
    rw [← Nat.add_assoc, ← Nat.add_mul]
    congr 2; omega
theorem Lies.weak {M : Nat → Prop} {sz : Nat} {es : List AV} {cur cur' : Nat → Option Value} (h : Lies M I sz es cur) (hc : ∀ o c, o < es.length * sz → cur o = some c → cur' o = some c) : Lies M I sz es cur' := by
  intro i e he
  obtain ⟨v, v1, v2, v3⟩ := h i e he
  refine ⟨v, v1, v2, fun j c hj => hc _ c (idx_lt (List.getElem?_eq_some_iff.1 he).1 ?_) (v3 j c hj)⟩
  rw [← v2]; exact (Array.getElem?_eq_some_iff.1 hj).1
theorem Row.lies {M : Nat → Prop} {g : Nat} {sh : Bool} {sz cap : Nat} {es : List AV} (h : Row M I w g sh sz es cap) : Lies M I sz es fun o => w.cell? ⟨g, o, none⟩ := h.elems

/-- What is laid behind a row. -/
structure Src (P : Program) (w : World) (sz : Nat) (x : Value) (m : Nat) (news : List Value) : Prop where
  len : ∀ w', (Builtin.lenOf x).run P w' = .ok m w'
  first : ∀ w', (∀ p, w'.cell? p = w.cell? p) → (Builtin.firstCells sz m x).run P w' = .ok news.toArray w'
  length : news.length = m * sz
  one : ∀ v ∈ news, v.oneCell' = true

theorem size_zeroCells' (z : Array Value) (n : Nat) : (Builtin.zeroCells z n).size = n * z.size := by simp [Builtin.zeroCells]

theorem append_hand {P : Program} {t t' ty e : TypeId} {i : TypeInfo} {z : Value} (ht : P.underlying t = some (.slice e)) (hi : P.info? e = some i) (hz : i.zero = some z)
    {d' : TypeDesc} (ht' : P.underlying t' = some d') (hd : ∀ k, d' ≠ .int k) {sz : Nat} (hsz : i.size = sz) (hzs : z.cells.size = sz) (hbp : 0 < i.bytes)
    (h : RI F I own σ a w) {sh : Bool} {es : List AV} {v : Value} (hh : Hand F I own σ w sh sz es v) {x : Value} {news : List Value} {xs : List AV} (hx : Src P w sz x xs.length news)
    (hxs : Lies F.mine I sz xs fun o => news[o]?) (hb : (es.length + xs.length) * i.bytes ≤ 140737488355328) :
    ∃ v' w' J, (Builtin.append_ #[t, t'] ty #[v, x]).run P w = .ok v' w' ∧ Imm.le I J ∧ RI F J own σ a w' ∧ Hand F J own σ w' sh sz (es ++ xs) v' := by
  subst hsz
  have h63 : es.length + xs.length ≤ 9223372036854775807 := by
    have : (es.length + xs.length) * 1 ≤ (es.length + xs.length) * i.bytes := Nat.mul_le_mul_left _ hbp
    omega
  -- a new row
  have grown : ∀ (base : Option Addr) (cap : Nat) (olds : List Value), olds.length = es.length * i.size →
      (∀ w', (∀ p, w'.cell? p = w.cell? p) → (Builtin.firstCells i.size es.length (.slice base es.length cap)).run P w' = .ok olds.toArray w') →
      Lies F.mine I i.size es (fun o => olds[o]?) → cap < es.length + xs.length →
      ∃ v' w' J, (Builtin.append_ #[t, t'] ty #[.slice base es.length cap, x]).run P w = .ok v' w' ∧ Imm.le I J ∧ RI F J own σ a w' ∧ Hand F J own σ w' sh i.size (es ++ xs) v' := by
    intro base cap olds hol hold hlo hg
    have hr := run_app_grow (P := P) (w := w) (ty := ty) ht hi hz ht' hd x xs.length news hx.len hx.first base es.length cap olds hold hg h63 (growslice_fits hg hb)
    have hge := grownCap_ge w (es.length + xs.length) cap e
    have hcm := grownCap_le_maxLen w (es.length + xs.length) cap e (by simp only [maxLen]; omega)
    have hlies : Lies F.mine I i.size (es ++ xs) (fun o => (olds.toArray ++ news.toArray ++ Builtin.zeroCells z.cells (grownCap w (es.length + xs.length) cap e - (es.length + xs.length)))[o]?) := by
      refine Lies.app (hlo.weak fun o c ho hc => ?_) (hxs.weak fun o c ho hc => ?_)
      · rw [Array.getElem?_append_left (by simp [hol]; omega), Array.getElem?_append_left (by simp [hol]; omega)]
        simpa using hc
      · have hnl := hx.length
        rw [Array.getElem?_append_left (by simp [hol, hnl]; omega), Array.getElem?_append_right (by simp [hol])]
        simpa [hol] using hc
    have hd1 := h.grow (fr_drew w)
    obtain ⟨h2, hh2⟩ := hd1.row_new (T := e) (fz := (0, 0)) (sz := i.size) (cap := grownCap w (es.length + xs.length) cap e) (es := es ++ xs) (cur := olds.toArray ++ news.toArray ++ Builtin.zeroCells z.cells (grownCap w (es.length + xs.length) cap e - (es.length + xs.length)))
      (by simp; omega) hcm (by
        simp only [Array.size_append, List.size_toArray, size_zeroCells', hzs, hol, hx.length, ← Nat.add_mul]
        congr 1; omega) (fun o _ => by simp) hlies
    obtain ⟨J, j1, j2, j3⟩ := Hand.marked (sh := sh) h2 hh2
    refine ⟨_, _, J, hr, j1, j2, ?_⟩
    simpa using j3
  rcases hh with ⟨rfl, rfl⟩ | ⟨g, cap, rfl, hf, hm, hlt, hr⟩
  · by_cases hx0 : xs.length = 0
    · obtain rfl : xs = [] := List.eq_nil_of_length_eq_zero hx0
      exact ⟨_, w, I, run_app_nil (P := P) (w := w) ht hi ht' hd x 0 news hx.len 0 rfl hx.first, Imm.leRefl I, h, .inl ⟨rfl, rfl⟩⟩
    · exact grown none 0 [] (by simp) (fun w' _ => by simp [Builtin.firstCells]) (fun i e he => by simp at he) (by simp; omega)
  · have hcs : es.length * i.size ≤ cap * i.size := Nat.mul_le_mul_right _ hr.le
    by_cases hroom : es.length + xs.length ≤ cap
    · have hrun := run_app_room (P := P) (w := w) (ty := ty) ht hi ht' hd x xs.length news hx.len hx.first hx.length hx.one g es.length cap hroom hr.cells
      have hnl := hx.length
      have hcs2 : es.length * i.size + xs.length * i.size ≤ cap * i.size := by rw [← Nat.add_mul]; exact Nat.mul_le_mul_right _ hroom
      have hW := wr_setCells w g (es.length * i.size) news fun j hj => by
        obtain ⟨v, hv, _⟩ := hr.cells (es.length * i.size + j) (by omega)
        rw [hv]; rfl
      have hIok : Imm.ok I (w.setCells g (es.length * i.size) news) := by
        intro b o v hb
        by_cases e1 : b = g
        · subst e1
          by_cases e2 : o < es.length * i.size
          · rw [hW.cout o (.inl e2)]; exact h.imm b o v hb
          · rw [hr.immn o (fun _ => by omega)] at hb; cases hb
        · rw [hW.cell_ne e1 o]; exact h.imm b o v hb
      have h2 := h.onlyFree hW.only hf hm hIok
      have hlies : Lies F.mine I i.size (es ++ xs) fun o => (w.setCells g (es.length * i.size) news).cell? ⟨g, o, none⟩ := by
        refine Lies.app (hr.lies.weak fun o c ho hc => ?_) (hxs.weak fun o c ho hc => ?_)
        · rw [hW.cout o (.inl ho)]; exact hc
        · have := hW.cin o (by omega)
          rw [this]; exact hc
      have hcells : ∀ o, o < cap * i.size → ∃ v, (w.setCells g (es.length * i.size) news).cell? ⟨g, o, none⟩ = some v ∧ (w.setCells g (es.length * i.size) news).frozen? ⟨g, o, none⟩ = false := by
        intro o ho
        obtain ⟨v, v1, v2⟩ := hr.cells o ho
        rw [hW.frz]
        by_cases e1 : es.length * i.size ≤ o ∧ o < es.length * i.size + news.length
        · have := hW.cin (o - es.length * i.size) (by omega)
          rw [show es.length * i.size + (o - es.length * i.size) = o by omega] at this
          exact ⟨news[o - es.length * i.size]'(by omega), by rw [this, List.getElem?_eq_getElem (by omega)], v2⟩
        · exact ⟨v, by rw [hW.cout o (by omega)]; exact v1, v2⟩
      have hsize : (w.setCells g (es.length * i.size) news).heap.size = w.heap.size := hW.size
      cases sh with
      | false =>
        refine ⟨_, _, I, hrun, Imm.leRefl I, h2, .inr ⟨g, cap, by simp, hf, hm, by rw [hsize]; exact hlt, ?_⟩⟩
        exact ⟨by simp; omega, hr.capm, hcells, hlies, fun e => (by cases e), fun o _ => hr.immn o fun e => by cases e⟩
      | true =>
        refine ⟨_, _, I.with (w.setCells g (es.length * i.size) news) g ((es ++ xs).length * i.size), hrun, Imm.with_le hIok, h2.immFree hf.toW hm, .inr ⟨g, cap, by simp, hf, hm, by rw [hsize]; exact hlt, ?_⟩⟩
        refine ⟨by simp; omega, hr.capm, hcells, fun i' e' he' => ?_, fun _ o v ho hv => ?_, fun o ho => ?_⟩
        · obtain ⟨v, v1, v2, v3⟩ := hlies i' e' he'
          exact ⟨v, v1.mono (fun _ h => h) (Imm.with_le hIok), v2, v3⟩
        · unfold Imm.with
          rw [if_pos ⟨rfl, ho⟩]; exact hv
        · have ho' := ho rfl
          unfold Imm.with
          rw [if_neg (by omega)]
          refine hr.immn o fun _ => ?_
          have : es.length * i.size ≤ (es ++ xs).length * i.size := Nat.mul_le_mul_right _ (by simp)
          omega
    · obtain ⟨olds, ol1, ol2⟩ : ∃ olds : List Value, olds.length = es.length * i.size ∧ ∀ o, o < es.length * i.size → olds[o]? = w.cell? ⟨g, o, none⟩ := by
        refine ⟨(List.range (es.length * i.size)).map fun o => (w.cell? ⟨g, o, none⟩).getD undef, by simp, fun o ho => ?_⟩
        obtain ⟨v, v1, _⟩ := hr.cells o (by omega)
        simp [ho, v1]
      refine grown (some ⟨g, 0, none⟩) cap olds ol1 (fun w' hw' => ?_) (hr.lies.weak fun o c ho hc => ?_) (by omega)
      · refine run_firstCells_some w' i.size es.length ⟨g, 0, none⟩ es.length cap olds ol1 fun j v hj => ?_
        have hjl := (List.getElem?_eq_some_iff.1 hj).1
        rw [hw', Addr.add_lit, Nat.zero_add, ← ol2 j (by omega)]
        exact hj
      · rw [ol2 o ho]; exact hc

end
end Go.Proofs.Ytjfnmlheehbojaa.VA
