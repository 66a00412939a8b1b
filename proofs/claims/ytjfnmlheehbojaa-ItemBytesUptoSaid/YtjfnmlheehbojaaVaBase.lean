/- Lemmas on states and on what values are in memory. -/
import Derived.Test.YtjfnmlheehbojaaVaDefs
namespace Go.Proofs.Ytjfnmlheehbojaa.VA

section lists
variable {α : Type}
theorem look_ins (k : Nat) (x : α) : ∀ (l : List (Nat × α)) (j : Nat), look (ins k x l) j = if j = k then some x else look l j
  | [], j => by simp [ins, look]
  | (i, y) :: r, j => by
    have ih := look_ins k x r j
    unfold ins
    by_cases h1 : k < i
    · simp only [h1, if_true, look]
    · by_cases h2 : k = i
      · subst h2
        simp only [Nat.lt_irrefl, if_false, if_true, look]
        by_cases h : j = k <;> simp [h]
      · simp only [h1, h2, if_false, look, ih]
        by_cases h : j = i
        · subst h
          simp [Ne.symm h2]
        · simp [h]
end lists
theorem look_strike (p : AV → Bool) : ∀ (l : List (Nat × AV)) (j : Nat), look (strike p l) j = (look l j).map fun y => if p y = true then .bot else y
  | [], j => by simp [strike, look]
  | (i, y) :: r, j => by
    unfold strike
    simp only [look]
    by_cases hj : j = i
    · simp [hj]
    · simp only [hj, if_false]; exact look_strike p r j
theorem look_keep {α : Type} (f : List Nat → List (Nat × α) → List (Nat × α)) (h0 : ∀ ks, f ks [] = []) (h1 : ∀ ks j x r, f ks ((j, x) :: r) = consIf (ks.contains j) (j, x) (f ks r)) :
    ∀ (l : List (Nat × α)) (ks : List Nat) (j : Nat) (x : α), look (f ks l) j = some x → look l j = some x ∧ ks.contains j = true
  | [], ks, j, x, h => by rw [h0] at h; cases h
  | (i, y) :: r, ks, j, x, h => by
    rw [h1] at h
    simp only [look]
    cases hc : ks.contains i with
    | true =>
      rw [hc] at h
      simp only [consIf, look] at h
      split at h
      · rename_i e
        subst e
        rw [if_pos rfl]; exact ⟨h, hc⟩
      · rename_i e
        rw [if_neg e]; exact look_keep f h0 h1 r ks j x h
    | false =>
      rw [hc] at h
      obtain ⟨k1, k2⟩ := look_keep f h0 h1 r ks j x h
      have e : j ≠ i := by
        intro e; subst e; rw [hc] at k2; cases k2
      rw [if_neg e]; exact ⟨k1, k2⟩
theorem look_keepL (l : List (Nat × AV)) (ks : List Nat) (j : Nat) (x : AV) (h : look (keepL ks l) j = some x) : look l j = some x ∧ ks.contains j = true :=
  look_keep keepL (fun _ => rfl) (fun _ _ _ _ => rfl) l ks j x h
theorem look_keepV (ks : List Nat) (l : List (Nat × List AV)) (j : Nat) (cs : List AV) (h : look (keepV ks l) j = some cs) : look l j = some cs ∧ ks.contains j = true :=
  look_keep keepV (fun _ => rfl) (fun _ _ _ _ => rfl) l ks j cs h

theorem Imm.leRefl (I : Imm) : Imm.le I I := fun _ _ _ h => h
theorem Imm.le.trans {I J K : Imm} (h : Imm.le I J) (k : Imm.le J K) : Imm.le I K := fun b o v e => k b o v (h b o v e)

theorem AR.mono {M N : Nat → Prop} {I J : Imm} (_hM : ∀ b, M b → N b) (hI : Imm.le I J) {a : AV} {v : Value} (h : AR M I a v) : AR N J a v := by
  induction h with
  | bool b => exact .bool b
  | int k n => exact .int k n
  | str s => exact .str s
  | fn f => exact .fn f
  | nilf => exact .nilf
  | agg cs vs hl h1 _ ih => exact .agg cs vs hl h1 ih
  | slnil fr sz base cap => exact .slnil fr sz base cap
  | sl fr sz es b o n cap hn hc vs _ hz hc' ih => exact .sl fr sz es b o n cap hn hc vs ih hz fun i j c hi hj => hI _ _ _ (hc' i j c hi hj)
  | ext p K v hJ h1 hp => exact .ext p K v (fun b o u e => hI _ _ _ (hJ b o u e)) h1 hp

/-- Whose making a block is does not matter. -/
theorem AR.any {M : Nat → Prop} (N : Nat → Prop) {I : Imm} {a : AV} {v : Value} (h : AR M I a v) : AR N I a v := by
  induction h with
  | bool b => exact .bool b
  | int k n => exact .int k n
  | str s => exact .str s
  | fn f => exact .fn f
  | nilf => exact .nilf
  | agg cs vs hl h1 _ ih => exact .agg cs vs hl h1 ih
  | slnil fr sz base cap => exact .slnil fr sz base cap
  | sl fr sz es b o n cap hn hc vs _ hz hc' ih => exact .sl fr sz es b o n cap hn hc vs ih hz hc'
  | ext p K v hJ h1 hp => exact .ext p K v hJ h1 hp
theorem Row.any {M : Nat → Prop} (N : Nat → Prop) {I : Imm} {w : World} {g : Nat} {sh : Bool} {sz : Nat} {es : List AV} {cap : Nat} (h : Row M I w g sh sz es cap) : Row N I w g sh sz es cap :=
  ⟨h.le, h.capm, h.cells, fun i e he => let ⟨v, h1, h2, h3⟩ := h.elems i e he; ⟨v, h1.any N, h2, h3⟩, h.immc, h.immn⟩

theorem cells_one {v : Value} (h : v.oneCell' = true) : v.cells = #[v] := by
  cases v <;> first | rfl | (simp [Value.oneCell'] at h)
theorem get_one {α : Type} {x c : α} {j : Nat} (h : (#[x] : Array α)[j]? = some c) : j = 0 ∧ c = x := by
  cases j with
  | zero => simp at h; exact ⟨rfl, h.symm⟩
  | succ j => simp at h
theorem lget_one {α : Type} {x c : α} {j : Nat} (h : [x][j]? = some c) : j = 0 ∧ c = x := by
  cases j with
  | zero => simp at h; exact ⟨rfl, h.symm⟩
  | succ j => simp at h

/-- The kinds of values that stand in one cell. -/
theorem AR.kind {M : Nat → Prop} {I : Imm} {a : AV} {v : Value} (h : AR M I a v) : (∃ cs vs, a = .agg cs ∧ v = .agg vs ∧ cs.length = vs.size ∧ (∀ (j : Nat) v, vs[j]? = some v → v.oneCell' = true) ∧ ∀ (j : Nat) c v, cs[j]? = some c → vs[j]? = some v → AR M I c v) ∨
    (v.oneCell' = true ∧ a.flat = [a]) := by
  cases h with
  | agg cs vs hl h1 h => exact .inl ⟨cs, vs, rfl, rfl, hl, h1, h⟩
  | ext p J v hJ h1 hp => exact .inr ⟨h1, rfl⟩
  | _ => exact .inr ⟨rfl, rfl⟩
theorem AR.imm {M : Nat → Prop} {I : Imm} {a : AV} {v : Value} (h : AR M I a v) : a.isImm = true := by cases h <;> rfl

theorem AR.one {M : Nat → Prop} {I : Imm} {a : AV} {v : Value} (h : AR M I a v) (j : Nat) (c : Value) (hc : v.cells[j]? = some c) : c.oneCell' = true := by
  rcases h.kind with ⟨cs, vs, rfl, rfl, _, h1, _⟩ | ⟨h1, _⟩
  · exact h1 j c hc
  · rw [cells_one h1] at hc
    obtain ⟨_, rfl⟩ := get_one hc
    exact h1
theorem AR.flen {M : Nat → Prop} {I : Imm} {a : AV} {v : Value} (h : AR M I a v) : a.flat.length = v.cells.size := by
  rcases h.kind with ⟨cs, vs, rfl, rfl, hl, _, _⟩ | ⟨h1, hf⟩
  · exact hl
  · rw [cells_one h1, hf]; rfl
theorem AR.fcell {M : Nat → Prop} {I : Imm} {a : AV} {v : Value} (h : AR M I a v) (j : Nat) (c : AV) (u : Value) (hc : a.flat[j]? = some c) (hu : v.cells[j]? = some u) : AR M I c u := by
  rcases h.kind with ⟨cs, vs, rfl, rfl, hl, _, hh⟩ | ⟨h1, hf⟩
  · exact hh j c u hc hu
  · rw [cells_one h1] at hu
    rw [hf] at hc
    obtain ⟨_, rfl⟩ := get_one hu
    obtain ⟨_, rfl⟩ := lget_one hc
    exact h

/-- Fewer marks. -/
theorem AR.dull {I : Imm} {a b : AV} (hd : Dull a b) : ∀ {v : Value}, AR (fun _ => True) I a v → AR (fun _ => True) I b v := by
  induction hd with
  | refl a => exact fun h => h
  | agg xs ys hl _ ih =>
    intro v h
    cases h with
    | agg _ vs hl' h1 h =>
      refine .agg ys vs (hl.symm.trans hl') h1 fun j y u hy hu => ?_
      have hj : j < xs.length := by
        have := (List.getElem?_eq_some_iff.1 hy).1; omega
      exact ih j xs[j] y (List.getElem?_eq_getElem hj) hy (h j _ u (List.getElem?_eq_getElem hj) hu)
  | nil fr sz =>
    intro v h
    cases h with
    | ext _ K _ _ _ hp =>
      have hp : v = .slice none 0 0 := hp
      subst hp
      exact .slnil fr sz none 0
  | sl fr sz xs ys hl _ ih =>
    intro v h
    cases h with
    | slnil =>
      obtain rfl : ys = [] := List.eq_nil_of_length_eq_zero hl.symm
      exact .slnil false sz _ _
    | sl _ _ _ b o n cap hn hc vs hv hz hI =>
      refine .sl false sz ys b o n cap (hn.trans hl) hc vs (fun i y hy => ?_) (fun i hi => hz i (by omega)) (fun i j c hi hj => hI i j c (by omega) hj)
      have hj : i < xs.length := by
        have := (List.getElem?_eq_some_iff.1 hy).1; omega
      exact ih i xs[i] y (List.getElem?_eq_getElem hj) hy (hv i _ (List.getElem?_eq_getElem hj))
theorem AR.plain {M N : Nat → Prop} {I : Imm} {a : AV} {v : Value} (h : AR M I a v) : Plain a → AR N I a v := by
  induction h with
  | bool b => exact fun _ => .bool b
  | int k n => exact fun _ => .int k n
  | str s => exact fun _ => .str s
  | fn f => exact fun _ => .fn f
  | nilf => exact fun _ => .nilf
  | agg cs vs hl h1 _ ih =>
    intro hp
    cases hp with
    | agg _ hp => exact .agg cs vs hl h1 fun j c v hc hv => ih j c v hc hv (hp c (List.mem_of_getElem? hc))
  | slnil fr sz base cap => exact fun _ => .slnil fr sz base cap
  | sl fr sz es b o n cap hn hc vs _ hz hc' ih =>
    intro hp
    cases hp with
    | sl _ _ hp => exact .sl false sz es b o n cap hn hc vs (fun i e he => ih i e he (hp e (List.mem_of_getElem? he))) hz hc'
  | ext p K v hJ h1 hp => exact fun _ => .ext p K v hJ h1 hp

/-- A row whose cells stand as they stood. -/
theorem Row.keep {M N : Nat → Prop} {I J : Imm} {w w' : World} {g : Nat} {sh : Bool} {sz : Nat} {es : List AV} {cap : Nat} (h : Row M I w g sh sz es cap) (hM : ∀ b, M b → N b) (hI : Imm.le I J)
    (hn : ∀ o, I g o = none → J g o = none) (hc : ∀ o, w'.cell? ⟨g, o, none⟩ = w.cell? ⟨g, o, none⟩) (hf : ∀ o, w'.frozen? ⟨g, o, none⟩ = w.frozen? ⟨g, o, none⟩) : Row N J w' g sh sz es cap where
  le := h.le
  capm := h.capm
  cells o ho := by rw [hc, hf]; exact h.cells o ho
  elems i e he := by
    obtain ⟨v, h1, h2, h3⟩ := h.elems i e he
    exact ⟨v, h1.mono hM hI, h2, fun j c hj => by rw [hc]; exact h3 j c hj⟩
  immc hs o v ho hv := hI _ _ _ (h.immc hs o v ho (by rw [← hc]; exact hv))
  immn o ho := hn o (h.immn o ho)

theorem idx_lt {i j n sz : Nat} (hi : i < n) (hj : j < sz) : i * sz + j < n * sz := by
  have : (i + 1) * sz ≤ n * sz := Nat.mul_le_mul_right sz hi
  rw [Nat.add_mul] at this
  omega

/-- What a marked row reads as. -/
theorem Row.toSl {M : Nat → Prop} {I : Imm} {w : World} {g : Nat} {sz : Nat} {es : List AV} {cap : Nat} (h : Row M I w g true sz es cap) (_hg : M g) : AR M I (.sl true sz es) (.slice (some ⟨g, 0, none⟩) es.length cap) := by
  have hx : ∀ i, ∃ v, i < es.length → (∀ e, es[i]? = some e → AR M I e v) ∧ v.cells.size = sz ∧ ∀ (j : Nat) c, v.cells[j]? = some c → w.cell? ⟨g, i * sz + j, none⟩ = some c := by
    intro i
    by_cases hi : i < es.length
    · obtain ⟨v, h1, h2, h3⟩ := h.elems i _ (List.getElem?_eq_getElem hi)
      exact ⟨v, fun _ => ⟨fun e he => by rw [List.getElem?_eq_getElem hi] at he; cases he; exact h1, h2, h3⟩⟩
    · exact ⟨undef, fun h => (hi h).elim⟩
  obtain ⟨vs, hvs⟩ : ∃ vs : Nat → Value, ∀ i, i < es.length → (∀ e, es[i]? = some e → AR M I e (vs i)) ∧ (vs i).cells.size = sz ∧ ∀ (j : Nat) c, (vs i).cells[j]? = some c → w.cell? ⟨g, i * sz + j, none⟩ = some c :=
    ⟨fun i => Classical.choose (hx i), fun i hi => Classical.choose_spec (hx i) hi⟩
  refine .sl true sz es g 0 es.length cap rfl h.le vs (fun i e he => (hvs i (List.getElem?_eq_some_iff.1 he).1).1 e he) (fun i hi => (hvs i hi).2.1) fun i j c hi hj => ?_
  rw [Nat.zero_add]
  have hjs : j < sz := by
    have := (Array.getElem?_eq_some_iff.1 hj).1
    rw [(hvs i hi).2.1] at this; exact this
  exact h.immc rfl _ _ (idx_lt hi hjs) ((hvs i hi).2.2 j c hj)

/-- The cells of a row, marked as such that never change any more. -/
def Imm.with (I : Imm) (w : World) (g n : Nat) : Imm := fun b o => if b = g ∧ o < n then w.cell? ⟨b, o, none⟩ else I b o
theorem Imm.with_le {I : Imm} {w : World} {g n : Nat} (hI : Imm.ok I w) : Imm.le I (I.with w g n) := by
  intro b o v h
  unfold Imm.with
  split
  · exact hI b o v h
  · exact h
theorem Imm.with_ok {I : Imm} {w : World} {g n : Nat} (hI : Imm.ok I w) : Imm.ok (I.with w g n) w := by
  intro b o v h
  unfold Imm.with at h
  split at h
  · exact h
  · exact hI b o v h
theorem Imm.with_ne {I : Imm} {w : World} {g n b : Nat} (h : b ≠ g) (o : Nat) : (I.with w g n) b o = I b o := if_neg fun e => h e.1

theorem Row.share {M : Nat → Prop} {I : Imm} {w : World} {g : Nat} {sh : Bool} {sz : Nat} {es : List AV} {cap : Nat} (h : Row M I w g sh sz es cap) (hI : Imm.ok I w) : Row M (I.with w g (es.length * sz)) w g true sz es cap where
  le := h.le
  capm := h.capm
  cells := h.cells
  elems i e he := by
    obtain ⟨v, h1, h2, h3⟩ := h.elems i e he
    exact ⟨v, h1.mono (fun _ h => h) (Imm.with_le hI), h2, h3⟩
  immc _ o v ho hv := by
    unfold Imm.with
    rw [if_pos ⟨rfl, ho⟩]; exact hv
  immn o ho := by
    have := ho rfl
    unfold Imm.with
    rw [if_neg (by omega)]
    exact h.immn o fun _ => this

end Go.Proofs.Ytjfnmlheehbojaa.VA
