/- The bytes of items: plain laws. -/
import Derived.Test.YtjfnmlheehbojaaCItem2
import Derived.Test.YtjfnmlheehbojaaCNum
namespace Go.Proofs.Ytjfnmlheehbojaa.VA
set_option linter.unusedSimpArgs false
set_option linter.unusedVariables false

def headB (n base : Nat) : List UInt8 := if n ≤ 55 then [UInt8.ofNat (base + n)] else UInt8.ofNat (base + 55 + byteLen n) :: bytesOf n
def aheadN (n : Nat) : Nat := if n ≤ 55 then 1 else 1 + byteLen n
theorem headB_len (n base : Nat) : (headB n base).length = aheadN n := by
  unfold headB aheadN
  split
  · rfl
  · rw [List.length_cons, bytesOf_len]; omega
def aloneB (s : List UInt8) : Bool := match s with
  | [b] => decide (b.toNat < 128)
  | _ => false
theorem alone_len {s : List UInt8} (h : aloneB s = true) : s.length = 1 := by
  unfold aloneB at h
  split at h
  · rfl
  · cases h
/-- An item's bytes. -/
def rawOf : ItemD → List UInt8
  | .mk false t _ => if aloneB t = true then t else headB t.length 128 ++ t
  | .mk true _ xs => headB (raws xs).length 192 ++ raws xs
where raws : List ItemD → List UInt8
  | [] => []
  | x :: xs => rawOf x ++ raws xs
abbrev raws := rawOf.raws
theorem raws_nil : raws [] = [] := by rw [raws, rawOf.raws]
theorem raws_cons (x : ItemD) (xs : List ItemD) : raws (x :: xs) = rawOf x ++ raws xs := by rw [raws, rawOf.raws]
theorem raws_append (xs ys : List ItemD) : raws (xs ++ ys) = raws xs ++ raws ys := by
  induction xs with
  | nil => rw [raws_nil]; rfl
  | cons x xs ih => rw [List.cons_append, raws_cons, raws_cons, ih, List.append_assoc]
theorem rawOf_text {it : ItemD} (h : it.list = false) : rawOf it = if aloneB it.text = true then it.text else headB it.text.length 128 ++ it.text := by
  cases it with
  | mk l t xs => cases h; rw [rawOf]; rfl
theorem rawOf_list {it : ItemD} (h : it.list = true) : rawOf it = headB (raws it.items).length 192 ++ raws it.items := by
  cases it with
  | mk l t xs => cases h; rw [rawOf]; rfl
theorem byteLen_small {n : Nat} (h : n < 1099511627776) : byteLen n ≤ 5 := (byteLen_le n 5).2 (by omega)
theorem ahead_le {n : Nat} (h : n < 1099511627776) : aheadN n ≤ 6 := by
  unfold aheadN
  have := byteLen_small h
  split <;> omega
theorem ahead_pos (n : Nat) : 1 ≤ aheadN n := by unfold aheadN; split <;> omega
theorem raws_le {xs : List ItemD} (h : ∀ x ∈ xs, (rawOf x).length ≤ 9 * x.wt) : (raws xs).length ≤ 9 * wts xs := by
  induction xs with
  | nil => rw [raws_nil, wts_nil]; exact Nat.le_refl _
  | cons x xs ih =>
    rw [raws_cons, wts_cons, List.length_append]
    have := ih fun y hy => h y (List.mem_cons_of_mem _ hy)
    have := h x (by simp)
    omega
theorem rawOf_le (it : ItemD) (ho : it.ok) : (rawOf it).length ≤ 9 * it.wt := by
  have hw := wt_eq it
  cases hl : it.list with
  | false =>
    rw [rawOf_text hl]
    have := ho.text
    have := ahead_le (n := it.text.length) (by omega)
    split
    · omega
    · rw [List.length_append, headB_len]; omega
  | true =>
    rw [rawOf_list hl, List.length_append, headB_len]
    have h1 := raws_le (xs := it.items) fun x hx => rawOf_le x (ho.all x hx)
    have h2 : wts it.items ≤ 16777216 := by have := ho; unfold ItemD.ok at this; omega
    have := ahead_le (n := (raws it.items).length) (by omega)
    omega
termination_by SizeOf.sizeOf it
decreasing_by exact item_lt hx
/-- Whether an item may be, beneath so many lists. -/
def okI : Nat → ItemD → Bool
  | d, .mk false t xs => xs.isEmpty && decide ((rawOf (.mk false t xs)).length ≤ 65536)
  | d, .mk true t xs => t.isEmpty && decide (d < 16) && okIs (d + 1) xs && decide ((rawOf (.mk true t xs)).length ≤ 65536)
where okIs : Nat → List ItemD → Bool
  | _, [] => true
  | d, x :: xs => okI d x && okIs d xs
abbrev okIs := okI.okIs
theorem okIs_nil (d : Nat) : okIs d [] = true := by rw [okIs, okI.okIs]
theorem okIs_cons (d : Nat) (x : ItemD) (xs : List ItemD) : okIs d (x :: xs) = (okI d x && okIs d xs) := by rw [okIs, okI.okIs]
theorem okI_text {it : ItemD} (d : Nat) (h : it.list = false) : okI d it = (it.items.isEmpty && decide ((rawOf it).length ≤ 65536)) := by
  cases it with
  | mk l t xs => cases h; rw [okI]; rfl
theorem okI_list {it : ItemD} (d : Nat) (h : it.list = true) : okI d it = (it.text.isEmpty && decide (d < 16) && okIs (d + 1) it.items && decide ((rawOf it).length ≤ 65536)) := by
  cases it with
  | mk l t xs => cases h; rw [okI]; rfl
theorem okIs_mem {d : Nat} : ∀ {xs : List ItemD}, okIs d xs = true → ∀ x ∈ xs, okI d x = true
  | [], _, x, h => by cases h
  | y :: ys, h, x, hx => by
    rw [okIs_cons, Bool.and_eq_true] at h
    rcases List.mem_cons.1 hx with rfl | hx
    · exact h.1
    · exact okIs_mem h.2 x hx
theorem okIs_all {d : Nat} : ∀ {xs : List ItemD}, (∀ x ∈ xs, okI d x = true) → okIs d xs = true
  | [], _ => okIs_nil d
  | y :: ys, h => by
    rw [okIs_cons, Bool.and_eq_true]
    exact ⟨h y (by simp), okIs_all fun x hx => h x (List.mem_cons_of_mem _ hx)⟩
/-- The page's own: how deep, too deep where it may not be. -/
def deepR : ItemD → Nat
  | .mk false _ xs => if xs.isEmpty then 0 else 17
  | .mk true t xs => if t.isEmpty then deepsR 0 xs + 1 else 17
where deepsR : Nat → List ItemD → Nat
  | n, [] => n
  | n, x :: xs => deepsR (max n (deepR x)) xs
abbrev deepsR := deepR.deepsR
theorem deepsR_nil (n : Nat) : deepsR n [] = n := by rw [deepsR, deepR.deepsR]
theorem deepsR_cons (n : Nat) (x : ItemD) (xs : List ItemD) : deepsR n (x :: xs) = deepsR (max n (deepR x)) xs := by rw [deepsR, deepR.deepsR]
theorem deepR_text {it : ItemD} (h : it.list = false) : deepR it = if it.items.isEmpty = true then 0 else 17 := by
  cases it with
  | mk l t xs => cases h; rw [deepR]; rfl
theorem deepR_list {it : ItemD} (h : it.list = true) : deepR it = if it.text.isEmpty = true then deepsR 0 it.items + 1 else 17 := by
  cases it with
  | mk l t xs => cases h; rw [deepR]; rfl
theorem deepsR_le {xs : List ItemD} {m : Nat} : ∀ n, deepsR n xs ≤ m ↔ n ≤ m ∧ ∀ x ∈ xs, deepR x ≤ m := by
  induction xs with
  | nil => intro n; rw [deepsR_nil]; simp
  | cons x xs ih =>
    intro n
    rw [deepsR_cons, ih]
    simp only [List.mem_cons, forall_eq_or_imp, Nat.max_le, and_assoc]
theorem deepR_wt (it : ItemD) : deepR it ≤ it.wt + 17 := by
  cases hl : it.list with
  | false => rw [deepR_text hl]; split <;> omega
  | true =>
    rw [deepR_list hl]
    split
    · have : deepsR 0 it.items ≤ wts it.items + 17 := (deepsR_le 0).2 ⟨by omega, fun x hx => by
        have := deepR_wt x
        have := wts_mem hx
        omega⟩
      have := wt_eq it
      omega
    · omega
termination_by SizeOf.sizeOf it
decreasing_by exact item_lt hx
/-- The page's own bytes: no more of what is too much. -/
def rawR : ItemD → List UInt8
  | .mk false t _ => if aloneB t = true then t else headB t.length 128 ++ t
  | .mk true _ xs => headB (rawsR [] xs).length 192 ++ rawsR [] xs
where rawsR : List UInt8 → List ItemD → List UInt8
  | s, [] => s
  | s, x :: xs => if s.length ≤ 131072 then rawsR (s ++ rawR x) xs else s
abbrev rawsR := rawR.rawsR
theorem rawsR_nil (s : List UInt8) : rawsR s [] = s := by rw [rawsR, rawR.rawsR]
theorem rawsR_cons (s : List UInt8) (x : ItemD) (xs : List ItemD) : rawsR s (x :: xs) = if s.length ≤ 131072 then rawsR (s ++ rawR x) xs else s := by rw [rawsR, rawR.rawsR]
theorem rawsR_end {s : List UInt8} {xs : List ItemD} (h : ¬ s.length ≤ 131072) : rawsR s xs = s := by
  cases xs with
  | nil => exact rawsR_nil s
  | cons x xs => rw [rawsR_cons, if_neg h]
theorem rawsR_drop {s : List UInt8} {xs : List ItemD} {i : Nat} {x : ItemD} (e : xs[i]? = some x) (h : s.length ≤ 131072) : rawsR s (xs.drop i) = rawsR (s ++ rawR x) (xs.drop (i + 1)) := by
  obtain ⟨hi, rfl⟩ := List.getElem?_eq_some_iff.1 e
  rw [← List.getElem_cons_drop hi, rawsR_cons, if_pos h]
theorem rawR_text {it : ItemD} (h : it.list = false) : rawR it = rawOf it := by
  rw [rawOf_text h]
  cases it with
  | mk l t xs => cases h; rw [rawR]; rfl
theorem rawR_list {it : ItemD} (h : it.list = true) : rawR it = headB (rawsR [] it.items).length 192 ++ rawsR [] it.items := by
  cases it with
  | mk l t xs => cases h; rw [rawR]; rfl
theorem rawsR_le {xs : List ItemD} (h : ∀ x ∈ xs, (rawR x).length ≤ 9 * x.wt) : ∀ s, s.length ≤ (rawsR s xs).length ∧ (rawsR s xs).length ≤ s.length + 9 * wts xs := by
  induction xs with
  | nil => intro s; rw [rawsR_nil, wts_nil]; omega
  | cons x xs ih =>
    intro s
    rw [rawsR_cons, wts_cons]
    have h1 := ih (fun y hy => h y (List.mem_cons_of_mem _ hy)) (s ++ rawR x)
    rw [List.length_append] at h1
    have := h x (by simp)
    split <;> omega
theorem rawR_le (it : ItemD) (ho : it.ok) : (rawR it).length ≤ 9 * it.wt := by
  cases hl : it.list with
  | false => rw [rawR_text hl]; exact rawOf_le it ho
  | true =>
    have hw := wt_eq it
    rw [rawR_list hl, List.length_append, headB_len]
    have h1 := (rawsR_le (xs := it.items) (fun x hx => rawR_le x (ho.all x hx)) []).2
    rw [List.length_nil] at h1
    have h2 : wts it.items ≤ 16777216 := by have := ho; unfold ItemD.ok at this; omega
    have := ahead_le (n := (rawsR [] it.items).length) (by omega)
    omega
termination_by SizeOf.sizeOf it
decreasing_by exact item_lt hx
theorem rawsR_raws {xs : List ItemD} (ho : ∀ x ∈ xs, x.ok) (h : ∀ x ∈ xs, rawR x = rawOf x ∨ (65536 < (rawR x).length ∧ 65536 < (rawOf x).length)) : ∀ s t, s = t ∨ (65536 < s.length ∧ 65536 < t.length) →
    rawsR s xs = t ++ raws xs ∨ (65536 < (rawsR s xs).length ∧ 65536 < (t ++ raws xs).length) := by
  induction xs with
  | nil => intro s t hst; rw [rawsR_nil, raws_nil, List.append_nil]; exact hst
  | cons x xs ih =>
    intro s t hst
    rw [rawsR_cons, raws_cons, ← List.append_assoc]
    split
    · refine ih (fun y hy => ho y (List.mem_cons_of_mem _ hy)) (fun y hy => h y (List.mem_cons_of_mem _ hy)) _ _ ?_
      rcases hst with rfl | ⟨h1, h2⟩
      · rcases h x (by simp) with e | ⟨h1, h2⟩
        · rw [e]; exact .inl rfl
        · refine .inr ⟨?_, ?_⟩ <;> rw [List.length_append] <;> omega
      · refine .inr ⟨?_, ?_⟩ <;> rw [List.length_append] <;> omega
    · rename_i hlong
      refine .inr ⟨by omega, ?_⟩
      rw [List.length_append, List.length_append]
      rcases hst with rfl | ⟨h1, h2⟩ <;> omega
theorem rawR_rawOf (it : ItemD) (ho : it.ok) : rawR it = rawOf it ∨ (65536 < (rawR it).length ∧ 65536 < (rawOf it).length) := by
  cases hl : it.list with
  | false => exact .inl (rawR_text hl)
  | true =>
    rw [rawR_list hl, rawOf_list hl]
    have := rawsR_raws (xs := it.items) ho.all (fun x hx => rawR_rawOf x (ho.all x hx)) [] [] (.inl rfl)
    rw [List.nil_append] at this
    rcases this with e | ⟨h1, h2⟩
    · rw [e]; exact .inl rfl
    · refine .inr ⟨?_, ?_⟩ <;> rw [List.length_append] <;> omega
termination_by SizeOf.sizeOf it
decreasing_by exact item_lt hx
theorem raws_mem : ∀ {xs : List ItemD} {x : ItemD}, x ∈ xs → (rawOf x).length ≤ (raws xs).length
  | y :: ys, x, h => by
    rw [raws_cons, List.length_append]
    rcases List.mem_cons.1 h with rfl | h
    · omega
    · have := raws_mem h; omega
/-- What may be, by the page and by the code. -/
theorem deep_ok (it : ItemD) : ∀ d, okI d it = true ↔ (deepR it + d ≤ 16 ∨ (deepR it = 0)) ∧ (rawOf it).length ≤ 65536 := by
  cases hl : it.list with
  | false =>
    intro d
    rw [okI_text d hl, deepR_text hl, Bool.and_eq_true, decide_eq_true_eq]
    split
    · rename_i h; rw [h]; simp
    · rename_i h
      simp only [h]
      constructor
      · rintro ⟨h, _⟩; cases h
      · rintro ⟨h | h, _⟩ <;> omega
  | true =>
    intro d
    rw [okI_list d hl, deepR_list hl]
    simp only [Bool.and_eq_true, decide_eq_true_eq]
    split
    · rename_i ht
      constructor
      · rintro ⟨⟨⟨_, hd⟩, hall⟩, hlen⟩
        refine ⟨.inl ?_, hlen⟩
        have := (deepsR_le (xs := it.items) (m := 15 - d) 0).2 ⟨Nat.zero_le _, fun x hx => ?_⟩
        · omega
        · have := ((deep_ok x (d + 1)).1 (okIs_mem hall x hx)).1
          omega
      · rintro ⟨hd, hlen⟩
        have hd : deepsR 0 it.items + 1 + d ≤ 16 := by omega
        refine ⟨⟨⟨ht, by omega⟩, okIs_all fun x hx => (deep_ok x (d + 1)).2 ⟨?_, ?_⟩⟩, hlen⟩
        · have := ((deepsR_le (xs := it.items) (m := 15 - d) 0).1 (by omega)).2 x hx
          omega
        · have h1 := raws_mem hx
          rw [rawOf_list hl, List.length_append] at hlen
          omega
    · rename_i ht
      constructor
      · rintro ⟨⟨⟨h, _⟩, _⟩, _⟩; exact absurd h ht
      · rintro ⟨h, _⟩; omega
termination_by SizeOf.sizeOf it
decreasing_by all_goals exact item_lt (by assumption)
end Go.Proofs.Ytjfnmlheehbojaa.VA
